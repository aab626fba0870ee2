/-
The walks through the reference's Text of a command. (Printed by gen_cmds.py.)
-/
import Derived.Test.YtdgbpmbknlhgmaaGreatDoorCmdJ
import Derived.Test.YtdgbpmbknlhgmaaGreatDoorCmdC
set_option linter.unusedVariables false
set_option linter.unusedSimpArgs false
namespace Go.Proofs.YtdgbpmbknlhgmaaGreatDoor
open Go.RowKit Qt Vm

set_option maxHeartbeats 4000000 in
set_option maxRecDepth 100000 in
theorem reftext1 (cl sq nd : Nat) (ky vl od : List UInt8) (w : World) (i1 : cl ≤ 9223372036854775807) (i2 : sq ≤ 9223372036854775807) (i3 : nd ≤ 9223372036854775807) (l1 : ky.length ≤ 48) (l2 : vl.length ≤ 48) (l3 : od.length ≤ 48) :
    Calls Tryz.prog 21 #[(⟨1, (cl : Int), (sq : Int), ky, vl, od, (nd : Int)⟩ : CX).value] w fun e w' => e = .returned (.string (str ([110, 111, 112]))) ∧ Below w.heap.size w w' := by
  have hcat : Hid ((⟨#[110, 111, 112]⟩ : ByteArray) = str ([110, 111, 112])) := by
    show _ = _
    rw [show (⟨#[110, 111, 112]⟩ : ByteArray) = str [110, 111, 112] from rfl]
  obtain ⟨W, hW⟩ : ∃ W, W = w.alloc (.cells #[.int .i64 1, .int .i64 (cl : Int), .int .i64 (sq : Int), .string (str ky), .string (str vl), .string (str od), .int .i64 (nd : Int)] 23) := ⟨_, rfl⟩
  have hbW : Hid (Below w.heap.size w W) := by subst hW; exact (Below.refl _ _).alloc (Nat.le_refl _) _
  have hB : Hid (Blk W w.heap.size 23 #[.int .i64 1, .int .i64 (cl : Int), .int .i64 (sq : Int), .string (str ky), .string (str vl), .string (str od), .int .i64 (nd : Int)]) := by subst hW; exact Blk.new _ _ _
  obtain ⟨X, hX⟩ : ∃ X, X = W.alloc (.cells #[.string ⟨#[]⟩, .string ⟨#[110, 111, 112]⟩, .string ⟨#[112, 117, 116]⟩, .string ⟨#[103, 101, 116]⟩, .string ⟨#[100, 101, 108]⟩, .string ⟨#[99, 97, 115]⟩, .string ⟨#[97, 99, 116, 105, 118, 97, 116, 101]⟩, .string ⟨#[97, 100, 100]⟩, .string ⟨#[100, 114, 111, 112]⟩] 9) := ⟨_, rfl⟩
  have hbX : Hid (Below w.heap.size w X) := by subst hX; exact hbW.out.alloc hbW.out.size _
  have hBX : Hid (Blk X w.heap.size 23 #[.int .i64 1, .int .i64 (cl : Int), .int .i64 (sq : Int), .string (str ky), .string (str vl), .string (str od), .int .i64 (nd : Int)]) := by subst hX; exact hB.out.alloc _
  obtain ⟨kc, kf, hlt⟩ := hB.out.facts
  clear l1 l2 l3
  go_enter Tryz.func21, Tryz.ntmps21
  go_wp2_with (fail)
  rw [← hW, ← hX]
  clear hW hX kc kf hlt hB hbW
  obtain ⟨kc, kf, hlt⟩ := hBX.out.facts
  refine (refOwned_calls 1 _).mono ?_
  rw [show ownB 1 = false from by decide]
  rintro e y ⟨rfl, rfl⟩
  go_wp2_with (fail)
  refine (refmember_calls 1 _).mono ?_
  rw [show memB 1 = false from by decide]
  rintro e y ⟨rfl, rfl⟩
  go_wp2_with (fail)
  go_ret
  exact ⟨ret_str hcat.out, hbX.out⟩
set_option maxHeartbeats 4000000 in
set_option maxRecDepth 100000 in
theorem reftext2 (cl sq nd : Nat) (ky vl od : List UInt8) (w : World) (i1 : cl ≤ 9223372036854775807) (i2 : sq ≤ 9223372036854775807) (i3 : nd ≤ 9223372036854775807) (l1 : ky.length ≤ 48) (l2 : vl.length ≤ 48) (l3 : od.length ≤ 48) :
    Calls Tryz.prog 21 #[(⟨2, (cl : Int), (sq : Int), ky, vl, od, (nd : Int)⟩ : CX).value] w fun e w' => e = .returned (.string (str ([112, 117, 116] ++ [32] ++ Lib.decDigits cl ++ [32] ++ Lib.decDigits sq ++ [32] ++ quote ky ++ [32] ++ quote vl))) ∧ Below w.heap.size w w' := by
  have za : (Lib.decDigits cl).length ≤ 20 := dec_len20 cl (by omega)
  have zb : (Lib.decDigits sq).length ≤ 20 := dec_len20 sq (by omega)
  have Hq1 := fun w1 => refQuote_calls (str ky) w1 (by rw [str_size]; omega)
  rw [toL_str] at Hq1
  have zq1 : (quote ky).length ≤ 194 := Nat.le_trans (quote_len ky) (by omega)
  have Hq3 := fun w1 => refQuote_calls (str vl) w1 (by rw [str_size]; omega)
  rw [toL_str] at Hq3
  have zq3 : (quote vl).length ≤ 194 := Nat.le_trans (quote_len vl) (by omega)
  generalize quote ky = q1 at *
  generalize quote vl = q3 at *
  have sa : (str (Lib.decDigits cl)).size ≤ 20 := by rw [str_size]; exact za
  have sb : (str (Lib.decDigits sq)).size ≤ 20 := by rw [str_size]; exact zb
  have sq1 : (str q1).size ≤ 194 := by rw [str_size]; exact zq1
  have sq3 : (str q3).size ≤ 194 := by rw [str_size]; exact zq3
  have z0 : ((⟨#[112, 117, 116]⟩ : ByteArray) ++ (⟨#[32]⟩ : ByteArray)).size ≤ 4 := by rw [ByteArray.size_append]; exact Nat.add_le_add (show (⟨#[112, 117, 116]⟩ : ByteArray).size ≤ 3 from Nat.le_refl _) (Nat.le_refl 1)
  have z1 : (((⟨#[112, 117, 116]⟩ : ByteArray) ++ (⟨#[32]⟩ : ByteArray)) ++ str (Lib.decDigits cl)).size ≤ 24 := by rw [ByteArray.size_append]; exact Nat.add_le_add z0 sa
  have z2 : ((((⟨#[112, 117, 116]⟩ : ByteArray) ++ (⟨#[32]⟩ : ByteArray)) ++ str (Lib.decDigits cl)) ++ (⟨#[32]⟩ : ByteArray)).size ≤ 25 := by rw [ByteArray.size_append]; exact Nat.add_le_add z1 (Nat.le_refl 1)
  have z3 : (((((⟨#[112, 117, 116]⟩ : ByteArray) ++ (⟨#[32]⟩ : ByteArray)) ++ str (Lib.decDigits cl)) ++ (⟨#[32]⟩ : ByteArray)) ++ str (Lib.decDigits sq)).size ≤ 45 := by rw [ByteArray.size_append]; exact Nat.add_le_add z2 sb
  have z4 : ((((((⟨#[112, 117, 116]⟩ : ByteArray) ++ (⟨#[32]⟩ : ByteArray)) ++ str (Lib.decDigits cl)) ++ (⟨#[32]⟩ : ByteArray)) ++ str (Lib.decDigits sq)) ++ (⟨#[32]⟩ : ByteArray)).size ≤ 46 := by rw [ByteArray.size_append]; exact Nat.add_le_add z3 (Nat.le_refl 1)
  have z5 : (((((((⟨#[112, 117, 116]⟩ : ByteArray) ++ (⟨#[32]⟩ : ByteArray)) ++ str (Lib.decDigits cl)) ++ (⟨#[32]⟩ : ByteArray)) ++ str (Lib.decDigits sq)) ++ (⟨#[32]⟩ : ByteArray)) ++ str q1).size ≤ 240 := by rw [ByteArray.size_append]; exact Nat.add_le_add z4 sq1
  have z6 : ((((((((⟨#[112, 117, 116]⟩ : ByteArray) ++ (⟨#[32]⟩ : ByteArray)) ++ str (Lib.decDigits cl)) ++ (⟨#[32]⟩ : ByteArray)) ++ str (Lib.decDigits sq)) ++ (⟨#[32]⟩ : ByteArray)) ++ str q1) ++ (⟨#[32]⟩ : ByteArray)).size ≤ 241 := by rw [ByteArray.size_append]; exact Nat.add_le_add z5 (Nat.le_refl 1)
  have z7 : (((((((((⟨#[112, 117, 116]⟩ : ByteArray) ++ (⟨#[32]⟩ : ByteArray)) ++ str (Lib.decDigits cl)) ++ (⟨#[32]⟩ : ByteArray)) ++ str (Lib.decDigits sq)) ++ (⟨#[32]⟩ : ByteArray)) ++ str q1) ++ (⟨#[32]⟩ : ByteArray)) ++ str q3).size ≤ 435 := by rw [ByteArray.size_append]; exact Nat.add_le_add z6 sq3
  have hcat : Hid ((((((((((⟨#[112, 117, 116]⟩ : ByteArray) ++ (⟨#[32]⟩ : ByteArray)) ++ str (Lib.decDigits cl)) ++ (⟨#[32]⟩ : ByteArray)) ++ str (Lib.decDigits sq)) ++ (⟨#[32]⟩ : ByteArray)) ++ str q1) ++ (⟨#[32]⟩ : ByteArray)) ++ str q3) = str ([112, 117, 116] ++ [32] ++ Lib.decDigits cl ++ [32] ++ Lib.decDigits sq ++ [32] ++ q1 ++ [32] ++ q3)) := by
    show _ = _
    rw [show (⟨#[112, 117, 116]⟩ : ByteArray) = str [112, 117, 116] from rfl, show (⟨#[32]⟩ : ByteArray) = str [32] from rfl]
    simp only [str_append]
  have Hq1 := Lib.hid Hq1
  have Hq3 := Lib.hid Hq3
  obtain ⟨W, hW⟩ : ∃ W, W = w.alloc (.cells #[.int .i64 2, .int .i64 (cl : Int), .int .i64 (sq : Int), .string (str ky), .string (str vl), .string (str od), .int .i64 (nd : Int)] 23) := ⟨_, rfl⟩
  have hbW : Hid (Below w.heap.size w W) := by subst hW; exact (Below.refl _ _).alloc (Nat.le_refl _) _
  have hB : Hid (Blk W w.heap.size 23 #[.int .i64 2, .int .i64 (cl : Int), .int .i64 (sq : Int), .string (str ky), .string (str vl), .string (str od), .int .i64 (nd : Int)]) := by subst hW; exact Blk.new _ _ _
  obtain ⟨X, hX⟩ : ∃ X, X = W.alloc (.cells #[.string ⟨#[]⟩, .string ⟨#[110, 111, 112]⟩, .string ⟨#[112, 117, 116]⟩, .string ⟨#[103, 101, 116]⟩, .string ⟨#[100, 101, 108]⟩, .string ⟨#[99, 97, 115]⟩, .string ⟨#[97, 99, 116, 105, 118, 97, 116, 101]⟩, .string ⟨#[97, 100, 100]⟩, .string ⟨#[100, 114, 111, 112]⟩] 9) := ⟨_, rfl⟩
  have hbX : Hid (Below w.heap.size w X) := by subst hX; exact hbW.out.alloc hbW.out.size _
  have hBX : Hid (Blk X w.heap.size 23 #[.int .i64 2, .int .i64 (cl : Int), .int .i64 (sq : Int), .string (str ky), .string (str vl), .string (str od), .int .i64 (nd : Int)]) := by subst hX; exact hB.out.alloc _
  obtain ⟨kc, kf, hlt⟩ := hB.out.facts
  clear l1 l2 l3
  go_enter Tryz.func21, Tryz.ntmps21
  go_wp2_with (fail)
  rw [← hW, ← hX]
  clear hW hX kc kf hlt hB hbW
  obtain ⟨kc, kf, hlt⟩ := hBX.out.facts
  refine (refOwned_calls 2 _).mono ?_
  rw [show ownB 2 = true from by decide]
  rintro e y ⟨rfl, rfl⟩
  have c1 : ∀ d os, (Sort.grow (redrawn X d) os).cell? ⟨w.heap.size, 1, none⟩ = some (.int .i64 (cl : Int)) := cell_regrown (hBX.out.cell 1)
  have c2 : ∀ d os, (Sort.grow (redrawn X d) os).cell? ⟨w.heap.size, 2, none⟩ = some (.int .i64 (sq : Int)) := cell_regrown (hBX.out.cell 2)
  have c3 : ∀ d os, (Sort.grow (redrawn X d) os).cell? ⟨w.heap.size, 3, none⟩ = some (.string (str ky)) := cell_regrown (hBX.out.cell 3)
  clear kc kf hlt
  go_wp2_with (fail)
  refine wp_region_quiet_below (by kernel_rfl) (by kernel_rfl) ?_
  repeat (go_big_quiet_step ((first | (go_at_call 51; exact Calls.regrown_of (digits_below _ _ (by assumption))) | (go_at_call 52; exact Calls.regrown_of (Hq1.out _)))))
  refine wpQuiet_nil ?_
  intro _ hw'
  obtain ⟨⟨dq, osq⟩, hw''⟩ := hw'
  subst hw''
  obtain ⟨Y, hY⟩ : ∃ Y, Y = Sort.grow (redrawn X dq) osq := ⟨_, rfl⟩
  have hbY : Below X.heap.size X Y := by subst hY; exact below_regrown X dq osq
  rw [← hY]
  have hBY := Lib.hid (hBX.out.call hbY)
  have hbY2 : Hid (Below w.heap.size w Y) := hbX.out.trans (hbY.mono hbX.out.size)
  clear c1 c2 c3 hY hbY hBX hbX
  obtain ⟨kc, kf, hlt⟩ := hBY.out.facts
  have hBX := hBY
  have hbX := hbY2
  clear hBY hbY2
  go_wp2_with (fail)
  refine (Hq3.out _).mono ?_
  rintro e y3 ⟨rfl, hb⟩
  have hBY := Lib.hid (hBX.out.call hb)
  have hbY2 : Hid (Below w.heap.size w y3) := hbX.out.trans (hb.mono hbX.out.size)
  clear kc kf hlt hb hBX hbX
  obtain ⟨kc, kf, hlt⟩ := hBY.out.facts
  have hBX := hBY
  have hbX := hbY2
  clear hBY hbY2
  go_wp2_with (fail)
  refine (refmember_calls 2 _).mono ?_
  rw [show memB 2 = false from by decide]
  rintro e y ⟨rfl, rfl⟩
  go_wp2_with (fail)
  go_ret
  exact ⟨ret_str hcat.out, hbX.out⟩
set_option maxHeartbeats 4000000 in
set_option maxRecDepth 100000 in
theorem reftext3 (cl sq nd : Nat) (ky vl od : List UInt8) (w : World) (i1 : cl ≤ 9223372036854775807) (i2 : sq ≤ 9223372036854775807) (i3 : nd ≤ 9223372036854775807) (l1 : ky.length ≤ 48) (l2 : vl.length ≤ 48) (l3 : od.length ≤ 48) :
    Calls Tryz.prog 21 #[(⟨3, (cl : Int), (sq : Int), ky, vl, od, (nd : Int)⟩ : CX).value] w fun e w' => e = .returned (.string (str ([103, 101, 116] ++ [32] ++ Lib.decDigits cl ++ [32] ++ Lib.decDigits sq ++ [32] ++ quote ky))) ∧ Below w.heap.size w w' := by
  have za : (Lib.decDigits cl).length ≤ 20 := dec_len20 cl (by omega)
  have zb : (Lib.decDigits sq).length ≤ 20 := dec_len20 sq (by omega)
  have Hq1 := fun w1 => refQuote_calls (str ky) w1 (by rw [str_size]; omega)
  rw [toL_str] at Hq1
  have zq1 : (quote ky).length ≤ 194 := Nat.le_trans (quote_len ky) (by omega)
  generalize quote ky = q1 at *
  have sa : (str (Lib.decDigits cl)).size ≤ 20 := by rw [str_size]; exact za
  have sb : (str (Lib.decDigits sq)).size ≤ 20 := by rw [str_size]; exact zb
  have sq1 : (str q1).size ≤ 194 := by rw [str_size]; exact zq1
  have z0 : ((⟨#[103, 101, 116]⟩ : ByteArray) ++ (⟨#[32]⟩ : ByteArray)).size ≤ 4 := by rw [ByteArray.size_append]; exact Nat.add_le_add (show (⟨#[103, 101, 116]⟩ : ByteArray).size ≤ 3 from Nat.le_refl _) (Nat.le_refl 1)
  have z1 : (((⟨#[103, 101, 116]⟩ : ByteArray) ++ (⟨#[32]⟩ : ByteArray)) ++ str (Lib.decDigits cl)).size ≤ 24 := by rw [ByteArray.size_append]; exact Nat.add_le_add z0 sa
  have z2 : ((((⟨#[103, 101, 116]⟩ : ByteArray) ++ (⟨#[32]⟩ : ByteArray)) ++ str (Lib.decDigits cl)) ++ (⟨#[32]⟩ : ByteArray)).size ≤ 25 := by rw [ByteArray.size_append]; exact Nat.add_le_add z1 (Nat.le_refl 1)
  have z3 : (((((⟨#[103, 101, 116]⟩ : ByteArray) ++ (⟨#[32]⟩ : ByteArray)) ++ str (Lib.decDigits cl)) ++ (⟨#[32]⟩ : ByteArray)) ++ str (Lib.decDigits sq)).size ≤ 45 := by rw [ByteArray.size_append]; exact Nat.add_le_add z2 sb
  have z4 : ((((((⟨#[103, 101, 116]⟩ : ByteArray) ++ (⟨#[32]⟩ : ByteArray)) ++ str (Lib.decDigits cl)) ++ (⟨#[32]⟩ : ByteArray)) ++ str (Lib.decDigits sq)) ++ (⟨#[32]⟩ : ByteArray)).size ≤ 46 := by rw [ByteArray.size_append]; exact Nat.add_le_add z3 (Nat.le_refl 1)
  have z5 : (((((((⟨#[103, 101, 116]⟩ : ByteArray) ++ (⟨#[32]⟩ : ByteArray)) ++ str (Lib.decDigits cl)) ++ (⟨#[32]⟩ : ByteArray)) ++ str (Lib.decDigits sq)) ++ (⟨#[32]⟩ : ByteArray)) ++ str q1).size ≤ 240 := by rw [ByteArray.size_append]; exact Nat.add_le_add z4 sq1
  have hcat : Hid ((((((((⟨#[103, 101, 116]⟩ : ByteArray) ++ (⟨#[32]⟩ : ByteArray)) ++ str (Lib.decDigits cl)) ++ (⟨#[32]⟩ : ByteArray)) ++ str (Lib.decDigits sq)) ++ (⟨#[32]⟩ : ByteArray)) ++ str q1) = str ([103, 101, 116] ++ [32] ++ Lib.decDigits cl ++ [32] ++ Lib.decDigits sq ++ [32] ++ q1)) := by
    show _ = _
    rw [show (⟨#[103, 101, 116]⟩ : ByteArray) = str [103, 101, 116] from rfl, show (⟨#[32]⟩ : ByteArray) = str [32] from rfl]
    simp only [str_append]
  have Hq1 := Lib.hid Hq1
  obtain ⟨W, hW⟩ : ∃ W, W = w.alloc (.cells #[.int .i64 3, .int .i64 (cl : Int), .int .i64 (sq : Int), .string (str ky), .string (str vl), .string (str od), .int .i64 (nd : Int)] 23) := ⟨_, rfl⟩
  have hbW : Hid (Below w.heap.size w W) := by subst hW; exact (Below.refl _ _).alloc (Nat.le_refl _) _
  have hB : Hid (Blk W w.heap.size 23 #[.int .i64 3, .int .i64 (cl : Int), .int .i64 (sq : Int), .string (str ky), .string (str vl), .string (str od), .int .i64 (nd : Int)]) := by subst hW; exact Blk.new _ _ _
  obtain ⟨X, hX⟩ : ∃ X, X = W.alloc (.cells #[.string ⟨#[]⟩, .string ⟨#[110, 111, 112]⟩, .string ⟨#[112, 117, 116]⟩, .string ⟨#[103, 101, 116]⟩, .string ⟨#[100, 101, 108]⟩, .string ⟨#[99, 97, 115]⟩, .string ⟨#[97, 99, 116, 105, 118, 97, 116, 101]⟩, .string ⟨#[97, 100, 100]⟩, .string ⟨#[100, 114, 111, 112]⟩] 9) := ⟨_, rfl⟩
  have hbX : Hid (Below w.heap.size w X) := by subst hX; exact hbW.out.alloc hbW.out.size _
  have hBX : Hid (Blk X w.heap.size 23 #[.int .i64 3, .int .i64 (cl : Int), .int .i64 (sq : Int), .string (str ky), .string (str vl), .string (str od), .int .i64 (nd : Int)]) := by subst hX; exact hB.out.alloc _
  obtain ⟨kc, kf, hlt⟩ := hB.out.facts
  clear l1 l2 l3
  go_enter Tryz.func21, Tryz.ntmps21
  go_wp2_with (fail)
  rw [← hW, ← hX]
  clear hW hX kc kf hlt hB hbW
  obtain ⟨kc, kf, hlt⟩ := hBX.out.facts
  refine (refOwned_calls 3 _).mono ?_
  rw [show ownB 3 = true from by decide]
  rintro e y ⟨rfl, rfl⟩
  have c1 : ∀ d os, (Sort.grow (redrawn X d) os).cell? ⟨w.heap.size, 1, none⟩ = some (.int .i64 (cl : Int)) := cell_regrown (hBX.out.cell 1)
  have c2 : ∀ d os, (Sort.grow (redrawn X d) os).cell? ⟨w.heap.size, 2, none⟩ = some (.int .i64 (sq : Int)) := cell_regrown (hBX.out.cell 2)
  have c3 : ∀ d os, (Sort.grow (redrawn X d) os).cell? ⟨w.heap.size, 3, none⟩ = some (.string (str ky)) := cell_regrown (hBX.out.cell 3)
  clear kc kf hlt
  go_wp2_with (fail)
  refine wp_region_quiet_below (by kernel_rfl) (by kernel_rfl) ?_
  repeat (go_big_quiet_step ((first | (go_at_call 51; exact Calls.regrown_of (digits_below _ _ (by assumption))) | (go_at_call 52; exact Calls.regrown_of (Hq1.out _)))))
  refine wpQuiet_nil ?_
  intro _ hw'
  obtain ⟨⟨dq, osq⟩, hw''⟩ := hw'
  subst hw''
  obtain ⟨Y, hY⟩ : ∃ Y, Y = Sort.grow (redrawn X dq) osq := ⟨_, rfl⟩
  have hbY : Below X.heap.size X Y := by subst hY; exact below_regrown X dq osq
  rw [← hY]
  have hBY := Lib.hid (hBX.out.call hbY)
  have hbY2 : Hid (Below w.heap.size w Y) := hbX.out.trans (hbY.mono hbX.out.size)
  clear c1 c2 c3 hY hbY hBX hbX
  obtain ⟨kc, kf, hlt⟩ := hBY.out.facts
  have hBX := hBY
  have hbX := hbY2
  clear hBY hbY2
  go_wp2_with (fail)
  refine (refmember_calls 3 _).mono ?_
  rw [show memB 3 = false from by decide]
  rintro e y ⟨rfl, rfl⟩
  go_wp2_with (fail)
  go_ret
  exact ⟨ret_str hcat.out, hbX.out⟩
set_option maxHeartbeats 4000000 in
set_option maxRecDepth 100000 in
theorem reftext4 (cl sq nd : Nat) (ky vl od : List UInt8) (w : World) (i1 : cl ≤ 9223372036854775807) (i2 : sq ≤ 9223372036854775807) (i3 : nd ≤ 9223372036854775807) (l1 : ky.length ≤ 48) (l2 : vl.length ≤ 48) (l3 : od.length ≤ 48) :
    Calls Tryz.prog 21 #[(⟨4, (cl : Int), (sq : Int), ky, vl, od, (nd : Int)⟩ : CX).value] w fun e w' => e = .returned (.string (str ([100, 101, 108] ++ [32] ++ Lib.decDigits cl ++ [32] ++ Lib.decDigits sq ++ [32] ++ quote ky))) ∧ Below w.heap.size w w' := by
  have za : (Lib.decDigits cl).length ≤ 20 := dec_len20 cl (by omega)
  have zb : (Lib.decDigits sq).length ≤ 20 := dec_len20 sq (by omega)
  have Hq1 := fun w1 => refQuote_calls (str ky) w1 (by rw [str_size]; omega)
  rw [toL_str] at Hq1
  have zq1 : (quote ky).length ≤ 194 := Nat.le_trans (quote_len ky) (by omega)
  generalize quote ky = q1 at *
  have sa : (str (Lib.decDigits cl)).size ≤ 20 := by rw [str_size]; exact za
  have sb : (str (Lib.decDigits sq)).size ≤ 20 := by rw [str_size]; exact zb
  have sq1 : (str q1).size ≤ 194 := by rw [str_size]; exact zq1
  have z0 : ((⟨#[100, 101, 108]⟩ : ByteArray) ++ (⟨#[32]⟩ : ByteArray)).size ≤ 4 := by rw [ByteArray.size_append]; exact Nat.add_le_add (show (⟨#[100, 101, 108]⟩ : ByteArray).size ≤ 3 from Nat.le_refl _) (Nat.le_refl 1)
  have z1 : (((⟨#[100, 101, 108]⟩ : ByteArray) ++ (⟨#[32]⟩ : ByteArray)) ++ str (Lib.decDigits cl)).size ≤ 24 := by rw [ByteArray.size_append]; exact Nat.add_le_add z0 sa
  have z2 : ((((⟨#[100, 101, 108]⟩ : ByteArray) ++ (⟨#[32]⟩ : ByteArray)) ++ str (Lib.decDigits cl)) ++ (⟨#[32]⟩ : ByteArray)).size ≤ 25 := by rw [ByteArray.size_append]; exact Nat.add_le_add z1 (Nat.le_refl 1)
  have z3 : (((((⟨#[100, 101, 108]⟩ : ByteArray) ++ (⟨#[32]⟩ : ByteArray)) ++ str (Lib.decDigits cl)) ++ (⟨#[32]⟩ : ByteArray)) ++ str (Lib.decDigits sq)).size ≤ 45 := by rw [ByteArray.size_append]; exact Nat.add_le_add z2 sb
  have z4 : ((((((⟨#[100, 101, 108]⟩ : ByteArray) ++ (⟨#[32]⟩ : ByteArray)) ++ str (Lib.decDigits cl)) ++ (⟨#[32]⟩ : ByteArray)) ++ str (Lib.decDigits sq)) ++ (⟨#[32]⟩ : ByteArray)).size ≤ 46 := by rw [ByteArray.size_append]; exact Nat.add_le_add z3 (Nat.le_refl 1)
  have z5 : (((((((⟨#[100, 101, 108]⟩ : ByteArray) ++ (⟨#[32]⟩ : ByteArray)) ++ str (Lib.decDigits cl)) ++ (⟨#[32]⟩ : ByteArray)) ++ str (Lib.decDigits sq)) ++ (⟨#[32]⟩ : ByteArray)) ++ str q1).size ≤ 240 := by rw [ByteArray.size_append]; exact Nat.add_le_add z4 sq1
  have hcat : Hid ((((((((⟨#[100, 101, 108]⟩ : ByteArray) ++ (⟨#[32]⟩ : ByteArray)) ++ str (Lib.decDigits cl)) ++ (⟨#[32]⟩ : ByteArray)) ++ str (Lib.decDigits sq)) ++ (⟨#[32]⟩ : ByteArray)) ++ str q1) = str ([100, 101, 108] ++ [32] ++ Lib.decDigits cl ++ [32] ++ Lib.decDigits sq ++ [32] ++ q1)) := by
    show _ = _
    rw [show (⟨#[100, 101, 108]⟩ : ByteArray) = str [100, 101, 108] from rfl, show (⟨#[32]⟩ : ByteArray) = str [32] from rfl]
    simp only [str_append]
  have Hq1 := Lib.hid Hq1
  obtain ⟨W, hW⟩ : ∃ W, W = w.alloc (.cells #[.int .i64 4, .int .i64 (cl : Int), .int .i64 (sq : Int), .string (str ky), .string (str vl), .string (str od), .int .i64 (nd : Int)] 23) := ⟨_, rfl⟩
  have hbW : Hid (Below w.heap.size w W) := by subst hW; exact (Below.refl _ _).alloc (Nat.le_refl _) _
  have hB : Hid (Blk W w.heap.size 23 #[.int .i64 4, .int .i64 (cl : Int), .int .i64 (sq : Int), .string (str ky), .string (str vl), .string (str od), .int .i64 (nd : Int)]) := by subst hW; exact Blk.new _ _ _
  obtain ⟨X, hX⟩ : ∃ X, X = W.alloc (.cells #[.string ⟨#[]⟩, .string ⟨#[110, 111, 112]⟩, .string ⟨#[112, 117, 116]⟩, .string ⟨#[103, 101, 116]⟩, .string ⟨#[100, 101, 108]⟩, .string ⟨#[99, 97, 115]⟩, .string ⟨#[97, 99, 116, 105, 118, 97, 116, 101]⟩, .string ⟨#[97, 100, 100]⟩, .string ⟨#[100, 114, 111, 112]⟩] 9) := ⟨_, rfl⟩
  have hbX : Hid (Below w.heap.size w X) := by subst hX; exact hbW.out.alloc hbW.out.size _
  have hBX : Hid (Blk X w.heap.size 23 #[.int .i64 4, .int .i64 (cl : Int), .int .i64 (sq : Int), .string (str ky), .string (str vl), .string (str od), .int .i64 (nd : Int)]) := by subst hX; exact hB.out.alloc _
  obtain ⟨kc, kf, hlt⟩ := hB.out.facts
  clear l1 l2 l3
  go_enter Tryz.func21, Tryz.ntmps21
  go_wp2_with (fail)
  rw [← hW, ← hX]
  clear hW hX kc kf hlt hB hbW
  obtain ⟨kc, kf, hlt⟩ := hBX.out.facts
  refine (refOwned_calls 4 _).mono ?_
  rw [show ownB 4 = true from by decide]
  rintro e y ⟨rfl, rfl⟩
  have c1 : ∀ d os, (Sort.grow (redrawn X d) os).cell? ⟨w.heap.size, 1, none⟩ = some (.int .i64 (cl : Int)) := cell_regrown (hBX.out.cell 1)
  have c2 : ∀ d os, (Sort.grow (redrawn X d) os).cell? ⟨w.heap.size, 2, none⟩ = some (.int .i64 (sq : Int)) := cell_regrown (hBX.out.cell 2)
  have c3 : ∀ d os, (Sort.grow (redrawn X d) os).cell? ⟨w.heap.size, 3, none⟩ = some (.string (str ky)) := cell_regrown (hBX.out.cell 3)
  clear kc kf hlt
  go_wp2_with (fail)
  refine wp_region_quiet_below (by kernel_rfl) (by kernel_rfl) ?_
  repeat (go_big_quiet_step ((first | (go_at_call 51; exact Calls.regrown_of (digits_below _ _ (by assumption))) | (go_at_call 52; exact Calls.regrown_of (Hq1.out _)))))
  refine wpQuiet_nil ?_
  intro _ hw'
  obtain ⟨⟨dq, osq⟩, hw''⟩ := hw'
  subst hw''
  obtain ⟨Y, hY⟩ : ∃ Y, Y = Sort.grow (redrawn X dq) osq := ⟨_, rfl⟩
  have hbY : Below X.heap.size X Y := by subst hY; exact below_regrown X dq osq
  rw [← hY]
  have hBY := Lib.hid (hBX.out.call hbY)
  have hbY2 : Hid (Below w.heap.size w Y) := hbX.out.trans (hbY.mono hbX.out.size)
  clear c1 c2 c3 hY hbY hBX hbX
  obtain ⟨kc, kf, hlt⟩ := hBY.out.facts
  have hBX := hBY
  have hbX := hbY2
  clear hBY hbY2
  go_wp2_with (fail)
  refine (refmember_calls 4 _).mono ?_
  rw [show memB 4 = false from by decide]
  rintro e y ⟨rfl, rfl⟩
  go_wp2_with (fail)
  go_ret
  exact ⟨ret_str hcat.out, hbX.out⟩
set_option maxHeartbeats 4000000 in
set_option maxRecDepth 100000 in
theorem reftext5 (cl sq nd : Nat) (ky vl od : List UInt8) (w : World) (i1 : cl ≤ 9223372036854775807) (i2 : sq ≤ 9223372036854775807) (i3 : nd ≤ 9223372036854775807) (l1 : ky.length ≤ 48) (l2 : vl.length ≤ 48) (l3 : od.length ≤ 48) :
    Calls Tryz.prog 21 #[(⟨5, (cl : Int), (sq : Int), ky, vl, od, (nd : Int)⟩ : CX).value] w fun e w' => e = .returned (.string (str ([99, 97, 115] ++ [32] ++ Lib.decDigits cl ++ [32] ++ Lib.decDigits sq ++ [32] ++ quote ky ++ [32] ++ quote od ++ [32] ++ quote vl))) ∧ Below w.heap.size w w' := by
  have za : (Lib.decDigits cl).length ≤ 20 := dec_len20 cl (by omega)
  have zb : (Lib.decDigits sq).length ≤ 20 := dec_len20 sq (by omega)
  have Hq1 := fun w1 => refQuote_calls (str ky) w1 (by rw [str_size]; omega)
  rw [toL_str] at Hq1
  have zq1 : (quote ky).length ≤ 194 := Nat.le_trans (quote_len ky) (by omega)
  have Hq2 := fun w1 => refQuote_calls (str od) w1 (by rw [str_size]; omega)
  rw [toL_str] at Hq2
  have zq2 : (quote od).length ≤ 194 := Nat.le_trans (quote_len od) (by omega)
  have Hq3 := fun w1 => refQuote_calls (str vl) w1 (by rw [str_size]; omega)
  rw [toL_str] at Hq3
  have zq3 : (quote vl).length ≤ 194 := Nat.le_trans (quote_len vl) (by omega)
  generalize quote ky = q1 at *
  generalize quote od = q2 at *
  generalize quote vl = q3 at *
  have sa : (str (Lib.decDigits cl)).size ≤ 20 := by rw [str_size]; exact za
  have sb : (str (Lib.decDigits sq)).size ≤ 20 := by rw [str_size]; exact zb
  have sq1 : (str q1).size ≤ 194 := by rw [str_size]; exact zq1
  have sq2 : (str q2).size ≤ 194 := by rw [str_size]; exact zq2
  have sq3 : (str q3).size ≤ 194 := by rw [str_size]; exact zq3
  have z0 : ((⟨#[99, 97, 115]⟩ : ByteArray) ++ (⟨#[32]⟩ : ByteArray)).size ≤ 4 := by rw [ByteArray.size_append]; exact Nat.add_le_add (show (⟨#[99, 97, 115]⟩ : ByteArray).size ≤ 3 from Nat.le_refl _) (Nat.le_refl 1)
  have z1 : (((⟨#[99, 97, 115]⟩ : ByteArray) ++ (⟨#[32]⟩ : ByteArray)) ++ str (Lib.decDigits cl)).size ≤ 24 := by rw [ByteArray.size_append]; exact Nat.add_le_add z0 sa
  have z2 : ((((⟨#[99, 97, 115]⟩ : ByteArray) ++ (⟨#[32]⟩ : ByteArray)) ++ str (Lib.decDigits cl)) ++ (⟨#[32]⟩ : ByteArray)).size ≤ 25 := by rw [ByteArray.size_append]; exact Nat.add_le_add z1 (Nat.le_refl 1)
  have z3 : (((((⟨#[99, 97, 115]⟩ : ByteArray) ++ (⟨#[32]⟩ : ByteArray)) ++ str (Lib.decDigits cl)) ++ (⟨#[32]⟩ : ByteArray)) ++ str (Lib.decDigits sq)).size ≤ 45 := by rw [ByteArray.size_append]; exact Nat.add_le_add z2 sb
  have z4 : ((((((⟨#[99, 97, 115]⟩ : ByteArray) ++ (⟨#[32]⟩ : ByteArray)) ++ str (Lib.decDigits cl)) ++ (⟨#[32]⟩ : ByteArray)) ++ str (Lib.decDigits sq)) ++ (⟨#[32]⟩ : ByteArray)).size ≤ 46 := by rw [ByteArray.size_append]; exact Nat.add_le_add z3 (Nat.le_refl 1)
  have z5 : (((((((⟨#[99, 97, 115]⟩ : ByteArray) ++ (⟨#[32]⟩ : ByteArray)) ++ str (Lib.decDigits cl)) ++ (⟨#[32]⟩ : ByteArray)) ++ str (Lib.decDigits sq)) ++ (⟨#[32]⟩ : ByteArray)) ++ str q1).size ≤ 240 := by rw [ByteArray.size_append]; exact Nat.add_le_add z4 sq1
  have z6 : ((((((((⟨#[99, 97, 115]⟩ : ByteArray) ++ (⟨#[32]⟩ : ByteArray)) ++ str (Lib.decDigits cl)) ++ (⟨#[32]⟩ : ByteArray)) ++ str (Lib.decDigits sq)) ++ (⟨#[32]⟩ : ByteArray)) ++ str q1) ++ (⟨#[32]⟩ : ByteArray)).size ≤ 241 := by rw [ByteArray.size_append]; exact Nat.add_le_add z5 (Nat.le_refl 1)
  have z7 : (((((((((⟨#[99, 97, 115]⟩ : ByteArray) ++ (⟨#[32]⟩ : ByteArray)) ++ str (Lib.decDigits cl)) ++ (⟨#[32]⟩ : ByteArray)) ++ str (Lib.decDigits sq)) ++ (⟨#[32]⟩ : ByteArray)) ++ str q1) ++ (⟨#[32]⟩ : ByteArray)) ++ str q2).size ≤ 435 := by rw [ByteArray.size_append]; exact Nat.add_le_add z6 sq2
  have z8 : ((((((((((⟨#[99, 97, 115]⟩ : ByteArray) ++ (⟨#[32]⟩ : ByteArray)) ++ str (Lib.decDigits cl)) ++ (⟨#[32]⟩ : ByteArray)) ++ str (Lib.decDigits sq)) ++ (⟨#[32]⟩ : ByteArray)) ++ str q1) ++ (⟨#[32]⟩ : ByteArray)) ++ str q2) ++ (⟨#[32]⟩ : ByteArray)).size ≤ 436 := by rw [ByteArray.size_append]; exact Nat.add_le_add z7 (Nat.le_refl 1)
  have z9 : (((((((((((⟨#[99, 97, 115]⟩ : ByteArray) ++ (⟨#[32]⟩ : ByteArray)) ++ str (Lib.decDigits cl)) ++ (⟨#[32]⟩ : ByteArray)) ++ str (Lib.decDigits sq)) ++ (⟨#[32]⟩ : ByteArray)) ++ str q1) ++ (⟨#[32]⟩ : ByteArray)) ++ str q2) ++ (⟨#[32]⟩ : ByteArray)) ++ str q3).size ≤ 630 := by rw [ByteArray.size_append]; exact Nat.add_le_add z8 sq3
  have hcat : Hid ((((((((((((⟨#[99, 97, 115]⟩ : ByteArray) ++ (⟨#[32]⟩ : ByteArray)) ++ str (Lib.decDigits cl)) ++ (⟨#[32]⟩ : ByteArray)) ++ str (Lib.decDigits sq)) ++ (⟨#[32]⟩ : ByteArray)) ++ str q1) ++ (⟨#[32]⟩ : ByteArray)) ++ str q2) ++ (⟨#[32]⟩ : ByteArray)) ++ str q3) = str ([99, 97, 115] ++ [32] ++ Lib.decDigits cl ++ [32] ++ Lib.decDigits sq ++ [32] ++ q1 ++ [32] ++ q2 ++ [32] ++ q3)) := by
    show _ = _
    rw [show (⟨#[99, 97, 115]⟩ : ByteArray) = str [99, 97, 115] from rfl, show (⟨#[32]⟩ : ByteArray) = str [32] from rfl]
    simp only [str_append]
  have Hq1 := Lib.hid Hq1
  have Hq2 := Lib.hid Hq2
  have Hq3 := Lib.hid Hq3
  obtain ⟨W, hW⟩ : ∃ W, W = w.alloc (.cells #[.int .i64 5, .int .i64 (cl : Int), .int .i64 (sq : Int), .string (str ky), .string (str vl), .string (str od), .int .i64 (nd : Int)] 23) := ⟨_, rfl⟩
  have hbW : Hid (Below w.heap.size w W) := by subst hW; exact (Below.refl _ _).alloc (Nat.le_refl _) _
  have hB : Hid (Blk W w.heap.size 23 #[.int .i64 5, .int .i64 (cl : Int), .int .i64 (sq : Int), .string (str ky), .string (str vl), .string (str od), .int .i64 (nd : Int)]) := by subst hW; exact Blk.new _ _ _
  obtain ⟨X, hX⟩ : ∃ X, X = W.alloc (.cells #[.string ⟨#[]⟩, .string ⟨#[110, 111, 112]⟩, .string ⟨#[112, 117, 116]⟩, .string ⟨#[103, 101, 116]⟩, .string ⟨#[100, 101, 108]⟩, .string ⟨#[99, 97, 115]⟩, .string ⟨#[97, 99, 116, 105, 118, 97, 116, 101]⟩, .string ⟨#[97, 100, 100]⟩, .string ⟨#[100, 114, 111, 112]⟩] 9) := ⟨_, rfl⟩
  have hbX : Hid (Below w.heap.size w X) := by subst hX; exact hbW.out.alloc hbW.out.size _
  have hBX : Hid (Blk X w.heap.size 23 #[.int .i64 5, .int .i64 (cl : Int), .int .i64 (sq : Int), .string (str ky), .string (str vl), .string (str od), .int .i64 (nd : Int)]) := by subst hX; exact hB.out.alloc _
  obtain ⟨kc, kf, hlt⟩ := hB.out.facts
  clear l1 l2 l3
  go_enter Tryz.func21, Tryz.ntmps21
  go_wp2_with (fail)
  rw [← hW, ← hX]
  clear hW hX kc kf hlt hB hbW
  obtain ⟨kc, kf, hlt⟩ := hBX.out.facts
  refine (refOwned_calls 5 _).mono ?_
  rw [show ownB 5 = true from by decide]
  rintro e y ⟨rfl, rfl⟩
  have c1 : ∀ d os, (Sort.grow (redrawn X d) os).cell? ⟨w.heap.size, 1, none⟩ = some (.int .i64 (cl : Int)) := cell_regrown (hBX.out.cell 1)
  have c2 : ∀ d os, (Sort.grow (redrawn X d) os).cell? ⟨w.heap.size, 2, none⟩ = some (.int .i64 (sq : Int)) := cell_regrown (hBX.out.cell 2)
  have c3 : ∀ d os, (Sort.grow (redrawn X d) os).cell? ⟨w.heap.size, 3, none⟩ = some (.string (str ky)) := cell_regrown (hBX.out.cell 3)
  clear kc kf hlt
  go_wp2_with (fail)
  refine wp_region_quiet_below (by kernel_rfl) (by kernel_rfl) ?_
  repeat (go_big_quiet_step ((first | (go_at_call 51; exact Calls.regrown_of (digits_below _ _ (by assumption))) | (go_at_call 52; exact Calls.regrown_of (Hq1.out _)))))
  refine wpQuiet_nil ?_
  intro _ hw'
  obtain ⟨⟨dq, osq⟩, hw''⟩ := hw'
  subst hw''
  obtain ⟨Y, hY⟩ : ∃ Y, Y = Sort.grow (redrawn X dq) osq := ⟨_, rfl⟩
  have hbY : Below X.heap.size X Y := by subst hY; exact below_regrown X dq osq
  rw [← hY]
  have hBY := Lib.hid (hBX.out.call hbY)
  have hbY2 : Hid (Below w.heap.size w Y) := hbX.out.trans (hbY.mono hbX.out.size)
  clear c1 c2 c3 hY hbY hBX hbX
  obtain ⟨kc, kf, hlt⟩ := hBY.out.facts
  have hBX := hBY
  have hbX := hbY2
  clear hBY hbY2
  go_wp2_with (fail)
  refine (Hq2.out _).mono ?_
  rintro e y2 ⟨rfl, hb⟩
  have hBY := Lib.hid (hBX.out.call hb)
  have hbY2 : Hid (Below w.heap.size w y2) := hbX.out.trans (hb.mono hbX.out.size)
  clear kc kf hlt hb hBX hbX
  obtain ⟨kc, kf, hlt⟩ := hBY.out.facts
  have hBX := hBY
  have hbX := hbY2
  clear hBY hbY2
  go_wp2_with (fail)
  refine (Hq3.out _).mono ?_
  rintro e y3 ⟨rfl, hb⟩
  have hBY := Lib.hid (hBX.out.call hb)
  have hbY2 : Hid (Below w.heap.size w y3) := hbX.out.trans (hb.mono hbX.out.size)
  clear kc kf hlt hb hBX hbX
  obtain ⟨kc, kf, hlt⟩ := hBY.out.facts
  have hBX := hBY
  have hbX := hbY2
  clear hBY hbY2
  go_wp2_with (fail)
  refine (refmember_calls 5 _).mono ?_
  rw [show memB 5 = false from by decide]
  rintro e y ⟨rfl, rfl⟩
  go_wp2_with (fail)
  go_ret
  exact ⟨ret_str hcat.out, hbX.out⟩
set_option maxHeartbeats 4000000 in
set_option maxRecDepth 100000 in
theorem reftext6 (cl sq nd : Nat) (ky vl od : List UInt8) (w : World) (i1 : cl ≤ 9223372036854775807) (i2 : sq ≤ 9223372036854775807) (i3 : nd ≤ 9223372036854775807) (l1 : ky.length ≤ 48) (l2 : vl.length ≤ 48) (l3 : od.length ≤ 48) :
    Calls Tryz.prog 21 #[(⟨6, (cl : Int), (sq : Int), ky, vl, od, (nd : Int)⟩ : CX).value] w fun e w' => e = .returned (.string (str ([97, 99, 116, 105, 118, 97, 116, 101]))) ∧ Below w.heap.size w w' := by
  have hcat : Hid ((⟨#[97, 99, 116, 105, 118, 97, 116, 101]⟩ : ByteArray) = str ([97, 99, 116, 105, 118, 97, 116, 101])) := by
    show _ = _
    rw [show (⟨#[97, 99, 116, 105, 118, 97, 116, 101]⟩ : ByteArray) = str [97, 99, 116, 105, 118, 97, 116, 101] from rfl]
  obtain ⟨W, hW⟩ : ∃ W, W = w.alloc (.cells #[.int .i64 6, .int .i64 (cl : Int), .int .i64 (sq : Int), .string (str ky), .string (str vl), .string (str od), .int .i64 (nd : Int)] 23) := ⟨_, rfl⟩
  have hbW : Hid (Below w.heap.size w W) := by subst hW; exact (Below.refl _ _).alloc (Nat.le_refl _) _
  have hB : Hid (Blk W w.heap.size 23 #[.int .i64 6, .int .i64 (cl : Int), .int .i64 (sq : Int), .string (str ky), .string (str vl), .string (str od), .int .i64 (nd : Int)]) := by subst hW; exact Blk.new _ _ _
  obtain ⟨X, hX⟩ : ∃ X, X = W.alloc (.cells #[.string ⟨#[]⟩, .string ⟨#[110, 111, 112]⟩, .string ⟨#[112, 117, 116]⟩, .string ⟨#[103, 101, 116]⟩, .string ⟨#[100, 101, 108]⟩, .string ⟨#[99, 97, 115]⟩, .string ⟨#[97, 99, 116, 105, 118, 97, 116, 101]⟩, .string ⟨#[97, 100, 100]⟩, .string ⟨#[100, 114, 111, 112]⟩] 9) := ⟨_, rfl⟩
  have hbX : Hid (Below w.heap.size w X) := by subst hX; exact hbW.out.alloc hbW.out.size _
  have hBX : Hid (Blk X w.heap.size 23 #[.int .i64 6, .int .i64 (cl : Int), .int .i64 (sq : Int), .string (str ky), .string (str vl), .string (str od), .int .i64 (nd : Int)]) := by subst hX; exact hB.out.alloc _
  obtain ⟨kc, kf, hlt⟩ := hB.out.facts
  clear l1 l2 l3
  go_enter Tryz.func21, Tryz.ntmps21
  go_wp2_with (fail)
  rw [← hW, ← hX]
  clear hW hX kc kf hlt hB hbW
  obtain ⟨kc, kf, hlt⟩ := hBX.out.facts
  refine (refOwned_calls 6 _).mono ?_
  rw [show ownB 6 = false from by decide]
  rintro e y ⟨rfl, rfl⟩
  go_wp2_with (fail)
  refine (refmember_calls 6 _).mono ?_
  rw [show memB 6 = false from by decide]
  rintro e y ⟨rfl, rfl⟩
  go_wp2_with (fail)
  go_ret
  exact ⟨ret_str hcat.out, hbX.out⟩
set_option maxHeartbeats 4000000 in
set_option maxRecDepth 100000 in
theorem reftext7 (cl sq nd : Nat) (ky vl od : List UInt8) (w : World) (i1 : cl ≤ 9223372036854775807) (i2 : sq ≤ 9223372036854775807) (i3 : nd ≤ 9223372036854775807) (l1 : ky.length ≤ 48) (l2 : vl.length ≤ 48) (l3 : od.length ≤ 48) :
    Calls Tryz.prog 21 #[(⟨7, (cl : Int), (sq : Int), ky, vl, od, (nd : Int)⟩ : CX).value] w fun e w' => e = .returned (.string (str ([97, 100, 100] ++ [32] ++ Lib.decDigits nd))) ∧ Below w.heap.size w w' := by
  have HD := fun w1 => digits_below nd w1 i3
  have zd : (Lib.decDigits nd).length ≤ 20 := dec_len20 nd (by omega)
  have sd : (str (Lib.decDigits nd)).size ≤ 20 := by rw [str_size]; exact zd
  have z0 : ((⟨#[97, 100, 100]⟩ : ByteArray) ++ (⟨#[32]⟩ : ByteArray)).size ≤ 4 := by rw [ByteArray.size_append]; exact Nat.add_le_add (show (⟨#[97, 100, 100]⟩ : ByteArray).size ≤ 3 from Nat.le_refl _) (Nat.le_refl 1)
  have z1 : (((⟨#[97, 100, 100]⟩ : ByteArray) ++ (⟨#[32]⟩ : ByteArray)) ++ str (Lib.decDigits nd)).size ≤ 24 := by rw [ByteArray.size_append]; exact Nat.add_le_add z0 sd
  have hcat : Hid ((((⟨#[97, 100, 100]⟩ : ByteArray) ++ (⟨#[32]⟩ : ByteArray)) ++ str (Lib.decDigits nd)) = str ([97, 100, 100] ++ [32] ++ Lib.decDigits nd)) := by
    show _ = _
    rw [show (⟨#[97, 100, 100]⟩ : ByteArray) = str [97, 100, 100] from rfl, show (⟨#[32]⟩ : ByteArray) = str [32] from rfl]
    simp only [str_append]
  have HD := Lib.hid HD
  obtain ⟨W, hW⟩ : ∃ W, W = w.alloc (.cells #[.int .i64 7, .int .i64 (cl : Int), .int .i64 (sq : Int), .string (str ky), .string (str vl), .string (str od), .int .i64 (nd : Int)] 23) := ⟨_, rfl⟩
  have hbW : Hid (Below w.heap.size w W) := by subst hW; exact (Below.refl _ _).alloc (Nat.le_refl _) _
  have hB : Hid (Blk W w.heap.size 23 #[.int .i64 7, .int .i64 (cl : Int), .int .i64 (sq : Int), .string (str ky), .string (str vl), .string (str od), .int .i64 (nd : Int)]) := by subst hW; exact Blk.new _ _ _
  obtain ⟨X, hX⟩ : ∃ X, X = W.alloc (.cells #[.string ⟨#[]⟩, .string ⟨#[110, 111, 112]⟩, .string ⟨#[112, 117, 116]⟩, .string ⟨#[103, 101, 116]⟩, .string ⟨#[100, 101, 108]⟩, .string ⟨#[99, 97, 115]⟩, .string ⟨#[97, 99, 116, 105, 118, 97, 116, 101]⟩, .string ⟨#[97, 100, 100]⟩, .string ⟨#[100, 114, 111, 112]⟩] 9) := ⟨_, rfl⟩
  have hbX : Hid (Below w.heap.size w X) := by subst hX; exact hbW.out.alloc hbW.out.size _
  have hBX : Hid (Blk X w.heap.size 23 #[.int .i64 7, .int .i64 (cl : Int), .int .i64 (sq : Int), .string (str ky), .string (str vl), .string (str od), .int .i64 (nd : Int)]) := by subst hX; exact hB.out.alloc _
  obtain ⟨kc, kf, hlt⟩ := hB.out.facts
  clear l1 l2 l3
  go_enter Tryz.func21, Tryz.ntmps21
  go_wp2_with (fail)
  rw [← hW, ← hX]
  clear hW hX kc kf hlt hB hbW
  obtain ⟨kc, kf, hlt⟩ := hBX.out.facts
  refine (refOwned_calls 7 _).mono ?_
  rw [show ownB 7 = false from by decide]
  rintro e y ⟨rfl, rfl⟩
  go_wp2_with (fail)
  refine (refmember_calls 7 _).mono ?_
  rw [show memB 7 = true from by decide]
  rintro e y ⟨rfl, rfl⟩
  go_wp2_with (fail)
  refine (HD.out _).mono ?_
  rintro e y4 ⟨rfl, hb⟩
  have hBY := Lib.hid (hBX.out.call hb)
  have hbY2 : Hid (Below w.heap.size w y4) := hbX.out.trans (hb.mono hbX.out.size)
  clear kc kf hlt hb hBX hbX
  obtain ⟨kc, kf, hlt⟩ := hBY.out.facts
  have hBX := hBY
  have hbX := hbY2
  clear hBY hbY2
  go_wp2_with (fail)
  go_ret
  exact ⟨ret_str hcat.out, hbX.out⟩
set_option maxHeartbeats 4000000 in
set_option maxRecDepth 100000 in
theorem reftext8 (cl sq nd : Nat) (ky vl od : List UInt8) (w : World) (i1 : cl ≤ 9223372036854775807) (i2 : sq ≤ 9223372036854775807) (i3 : nd ≤ 9223372036854775807) (l1 : ky.length ≤ 48) (l2 : vl.length ≤ 48) (l3 : od.length ≤ 48) :
    Calls Tryz.prog 21 #[(⟨8, (cl : Int), (sq : Int), ky, vl, od, (nd : Int)⟩ : CX).value] w fun e w' => e = .returned (.string (str ([100, 114, 111, 112] ++ [32] ++ Lib.decDigits nd))) ∧ Below w.heap.size w w' := by
  have HD := fun w1 => digits_below nd w1 i3
  have zd : (Lib.decDigits nd).length ≤ 20 := dec_len20 nd (by omega)
  have sd : (str (Lib.decDigits nd)).size ≤ 20 := by rw [str_size]; exact zd
  have z0 : ((⟨#[100, 114, 111, 112]⟩ : ByteArray) ++ (⟨#[32]⟩ : ByteArray)).size ≤ 5 := by rw [ByteArray.size_append]; exact Nat.add_le_add (show (⟨#[100, 114, 111, 112]⟩ : ByteArray).size ≤ 4 from Nat.le_refl _) (Nat.le_refl 1)
  have z1 : (((⟨#[100, 114, 111, 112]⟩ : ByteArray) ++ (⟨#[32]⟩ : ByteArray)) ++ str (Lib.decDigits nd)).size ≤ 25 := by rw [ByteArray.size_append]; exact Nat.add_le_add z0 sd
  have hcat : Hid ((((⟨#[100, 114, 111, 112]⟩ : ByteArray) ++ (⟨#[32]⟩ : ByteArray)) ++ str (Lib.decDigits nd)) = str ([100, 114, 111, 112] ++ [32] ++ Lib.decDigits nd)) := by
    show _ = _
    rw [show (⟨#[100, 114, 111, 112]⟩ : ByteArray) = str [100, 114, 111, 112] from rfl, show (⟨#[32]⟩ : ByteArray) = str [32] from rfl]
    simp only [str_append]
  have HD := Lib.hid HD
  obtain ⟨W, hW⟩ : ∃ W, W = w.alloc (.cells #[.int .i64 8, .int .i64 (cl : Int), .int .i64 (sq : Int), .string (str ky), .string (str vl), .string (str od), .int .i64 (nd : Int)] 23) := ⟨_, rfl⟩
  have hbW : Hid (Below w.heap.size w W) := by subst hW; exact (Below.refl _ _).alloc (Nat.le_refl _) _
  have hB : Hid (Blk W w.heap.size 23 #[.int .i64 8, .int .i64 (cl : Int), .int .i64 (sq : Int), .string (str ky), .string (str vl), .string (str od), .int .i64 (nd : Int)]) := by subst hW; exact Blk.new _ _ _
  obtain ⟨X, hX⟩ : ∃ X, X = W.alloc (.cells #[.string ⟨#[]⟩, .string ⟨#[110, 111, 112]⟩, .string ⟨#[112, 117, 116]⟩, .string ⟨#[103, 101, 116]⟩, .string ⟨#[100, 101, 108]⟩, .string ⟨#[99, 97, 115]⟩, .string ⟨#[97, 99, 116, 105, 118, 97, 116, 101]⟩, .string ⟨#[97, 100, 100]⟩, .string ⟨#[100, 114, 111, 112]⟩] 9) := ⟨_, rfl⟩
  have hbX : Hid (Below w.heap.size w X) := by subst hX; exact hbW.out.alloc hbW.out.size _
  have hBX : Hid (Blk X w.heap.size 23 #[.int .i64 8, .int .i64 (cl : Int), .int .i64 (sq : Int), .string (str ky), .string (str vl), .string (str od), .int .i64 (nd : Int)]) := by subst hX; exact hB.out.alloc _
  obtain ⟨kc, kf, hlt⟩ := hB.out.facts
  clear l1 l2 l3
  go_enter Tryz.func21, Tryz.ntmps21
  go_wp2_with (fail)
  rw [← hW, ← hX]
  clear hW hX kc kf hlt hB hbW
  obtain ⟨kc, kf, hlt⟩ := hBX.out.facts
  refine (refOwned_calls 8 _).mono ?_
  rw [show ownB 8 = false from by decide]
  rintro e y ⟨rfl, rfl⟩
  go_wp2_with (fail)
  refine (refmember_calls 8 _).mono ?_
  rw [show memB 8 = true from by decide]
  rintro e y ⟨rfl, rfl⟩
  go_wp2_with (fail)
  refine (HD.out _).mono ?_
  rintro e y4 ⟨rfl, hb⟩
  have hBY := Lib.hid (hBX.out.call hb)
  have hbY2 : Hid (Below w.heap.size w y4) := hbX.out.trans (hb.mono hbX.out.size)
  clear kc kf hlt hb hBX hbX
  obtain ⟨kc, kf, hlt⟩ := hBY.out.facts
  have hBX := hBY
  have hbX := hbY2
  clear hBY hbY2
  go_wp2_with (fail)
  go_ret
  exact ⟨ret_str hcat.out, hbX.out⟩
theorem reftext_calls (x : CX) (w : World) (h : x.Ok) :
    Calls Tryz.prog 21 #[x.value] w fun e w' => e = .returned (.string (str (cmdT x))) ∧ Below w.heap.size w w' := by
  obtain ⟨s1, s2, s3⟩ := h.small
  have n1 := h.client.le (by omega)
  have n2 := h.seq.le (by omega)
  have n3 := h.node.le (by omega)
  have hk := h.kind
  obtain ⟨kd, cl, sq, ky, vl, od, nd⟩ := x
  simp only at s1 s2 s3 n1 n2 n3 hk
  obtain ⟨cl, rfl⟩ := Int.eq_ofNat_of_zero_le n1.1
  obtain ⟨sq, rfl⟩ := Int.eq_ofNat_of_zero_le n2.1
  obtain ⟨nd, rfl⟩ := Int.eq_ofNat_of_zero_le n3.1
  have hc : kd = 1 ∨ kd = 2 ∨ kd = 3 ∨ kd = 4 ∨ kd = 5 ∨ kd = 6 ∨ kd = 7 ∨ kd = 8 := by omega
  rcases hc with rfl | rfl | rfl | rfl | rfl | rfl | rfl | rfl
  · have e := reftext1 cl sq nd ky vl od w (by omega) (by omega) (by omega) s1 s3 s2
    have ht : cmdT ⟨1, (cl : Int), (sq : Int), ky, vl, od, (nd : Int)⟩ = Lib.join [nameN 1] [32] := by
      unfold cmdT
      simp only [cmdW, (by decide : wantB 0 2 1 = false), (by decide : wantB 1 2 1 = false), (by decide : wantB 2 2 1 = false), (by decide : wantB 3 2 1 = false), (by decide : wantB 4 2 1 = false), (by decide : wantB 5 2 1 = false), if_true, Bool.false_eq_true, if_false]
      try simp only [pW, Int.toNat_natCast]
      exact rfl
    rw [ht]
    refine e.mono fun e' w' h' => ?_
    rw [h'.1]
    refine ⟨congrArg (fun t => Ending.returned (.string (str t))) ?_, h'.2⟩
    show _ = Lib.join _ [32]
    simp [join_two, Lib.join_one, nameN]
  · have e := reftext2 cl sq nd ky vl od w (by omega) (by omega) (by omega) s1 s3 s2
    have ht : cmdT ⟨2, (cl : Int), (sq : Int), ky, vl, od, (nd : Int)⟩ = Lib.join [nameN 2, Lib.decDigits cl, Lib.decDigits sq, quote ky, quote vl] [32] := by
      unfold cmdT
      simp only [cmdW, (by decide : wantB 0 2 2 = true), (by decide : wantB 1 2 2 = true), (by decide : wantB 2 2 2 = true), (by decide : wantB 3 2 2 = false), (by decide : wantB 4 2 2 = true), (by decide : wantB 5 2 2 = false), if_true, Bool.false_eq_true, if_false]
      try simp only [pW, Int.toNat_natCast]
      exact rfl
    rw [ht]
    refine e.mono fun e' w' h' => ?_
    rw [h'.1]
    refine ⟨congrArg (fun t => Ending.returned (.string (str t))) ?_, h'.2⟩
    show _ = Lib.join _ [32]
    simp [join_two, Lib.join_one, nameN]
  · have e := reftext3 cl sq nd ky vl od w (by omega) (by omega) (by omega) s1 s3 s2
    have ht : cmdT ⟨3, (cl : Int), (sq : Int), ky, vl, od, (nd : Int)⟩ = Lib.join [nameN 3, Lib.decDigits cl, Lib.decDigits sq, quote ky] [32] := by
      unfold cmdT
      simp only [cmdW, (by decide : wantB 0 2 3 = true), (by decide : wantB 1 2 3 = true), (by decide : wantB 2 2 3 = true), (by decide : wantB 3 2 3 = false), (by decide : wantB 4 2 3 = false), (by decide : wantB 5 2 3 = false), if_true, Bool.false_eq_true, if_false]
      try simp only [pW, Int.toNat_natCast]
      exact rfl
    rw [ht]
    refine e.mono fun e' w' h' => ?_
    rw [h'.1]
    refine ⟨congrArg (fun t => Ending.returned (.string (str t))) ?_, h'.2⟩
    show _ = Lib.join _ [32]
    simp [join_two, Lib.join_one, nameN]
  · have e := reftext4 cl sq nd ky vl od w (by omega) (by omega) (by omega) s1 s3 s2
    have ht : cmdT ⟨4, (cl : Int), (sq : Int), ky, vl, od, (nd : Int)⟩ = Lib.join [nameN 4, Lib.decDigits cl, Lib.decDigits sq, quote ky] [32] := by
      unfold cmdT
      simp only [cmdW, (by decide : wantB 0 2 4 = true), (by decide : wantB 1 2 4 = true), (by decide : wantB 2 2 4 = true), (by decide : wantB 3 2 4 = false), (by decide : wantB 4 2 4 = false), (by decide : wantB 5 2 4 = false), if_true, Bool.false_eq_true, if_false]
      try simp only [pW, Int.toNat_natCast]
      exact rfl
    rw [ht]
    refine e.mono fun e' w' h' => ?_
    rw [h'.1]
    refine ⟨congrArg (fun t => Ending.returned (.string (str t))) ?_, h'.2⟩
    show _ = Lib.join _ [32]
    simp [join_two, Lib.join_one, nameN]
  · have e := reftext5 cl sq nd ky vl od w (by omega) (by omega) (by omega) s1 s3 s2
    have ht : cmdT ⟨5, (cl : Int), (sq : Int), ky, vl, od, (nd : Int)⟩ = Lib.join [nameN 5, Lib.decDigits cl, Lib.decDigits sq, quote ky, quote od, quote vl] [32] := by
      unfold cmdT
      simp only [cmdW, (by decide : wantB 0 2 5 = true), (by decide : wantB 1 2 5 = true), (by decide : wantB 2 2 5 = true), (by decide : wantB 3 2 5 = true), (by decide : wantB 4 2 5 = true), (by decide : wantB 5 2 5 = false), if_true, Bool.false_eq_true, if_false]
      try simp only [pW, Int.toNat_natCast]
      exact rfl
    rw [ht]
    refine e.mono fun e' w' h' => ?_
    rw [h'.1]
    refine ⟨congrArg (fun t => Ending.returned (.string (str t))) ?_, h'.2⟩
    show _ = Lib.join _ [32]
    simp [join_two, Lib.join_one, nameN]
  · have e := reftext6 cl sq nd ky vl od w (by omega) (by omega) (by omega) s1 s3 s2
    have ht : cmdT ⟨6, (cl : Int), (sq : Int), ky, vl, od, (nd : Int)⟩ = Lib.join [nameN 6] [32] := by
      unfold cmdT
      simp only [cmdW, (by decide : wantB 0 2 6 = false), (by decide : wantB 1 2 6 = false), (by decide : wantB 2 2 6 = false), (by decide : wantB 3 2 6 = false), (by decide : wantB 4 2 6 = false), (by decide : wantB 5 2 6 = false), if_true, Bool.false_eq_true, if_false]
      try simp only [pW, Int.toNat_natCast]
      exact rfl
    rw [ht]
    refine e.mono fun e' w' h' => ?_
    rw [h'.1]
    refine ⟨congrArg (fun t => Ending.returned (.string (str t))) ?_, h'.2⟩
    show _ = Lib.join _ [32]
    simp [join_two, Lib.join_one, nameN]
  · have e := reftext7 cl sq nd ky vl od w (by omega) (by omega) (by omega) s1 s3 s2
    have ht : cmdT ⟨7, (cl : Int), (sq : Int), ky, vl, od, (nd : Int)⟩ = Lib.join [nameN 7, Lib.decDigits nd] [32] := by
      unfold cmdT
      simp only [cmdW, (by decide : wantB 0 2 7 = false), (by decide : wantB 1 2 7 = false), (by decide : wantB 2 2 7 = false), (by decide : wantB 3 2 7 = false), (by decide : wantB 4 2 7 = false), (by decide : wantB 5 2 7 = true), if_true, Bool.false_eq_true, if_false]
      try simp only [pW, Int.toNat_natCast]
      exact rfl
    rw [ht]
    refine e.mono fun e' w' h' => ?_
    rw [h'.1]
    refine ⟨congrArg (fun t => Ending.returned (.string (str t))) ?_, h'.2⟩
    show _ = Lib.join _ [32]
    simp [join_two, Lib.join_one, nameN]
  · have e := reftext8 cl sq nd ky vl od w (by omega) (by omega) (by omega) s1 s3 s2
    have ht : cmdT ⟨8, (cl : Int), (sq : Int), ky, vl, od, (nd : Int)⟩ = Lib.join [nameN 8, Lib.decDigits nd] [32] := by
      unfold cmdT
      simp only [cmdW, (by decide : wantB 0 2 8 = false), (by decide : wantB 1 2 8 = false), (by decide : wantB 2 2 8 = false), (by decide : wantB 3 2 8 = false), (by decide : wantB 4 2 8 = false), (by decide : wantB 5 2 8 = true), if_true, Bool.false_eq_true, if_false]
      try simp only [pW, Int.toNat_natCast]
      exact rfl
    rw [ht]
    refine e.mono fun e' w' h' => ?_
    rw [h'.1]
    refine ⟨congrArg (fun t => Ending.returned (.string (str t))) ?_, h'.2⟩
    show _ = Lib.join _ [32]
    simp [join_two, Lib.join_one, nameN]
end Go.Proofs.YtdgbpmbknlhgmaaGreatDoor
