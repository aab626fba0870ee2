/-
The walk through the reference's Check of a command. (Printed by gen_cmdd.py.)
-/
import Derived.Test.YtdgbpmbknlhgmaaGreatDoorCmdC
set_option linter.unusedVariables false
set_option linter.unusedSimpArgs false
namespace Go.Proofs.YtdgbpmbknlhgmaaGreatDoor
open Go.RowKit Qt
set_option maxHeartbeats 16000000 in
set_option maxRecDepth 100000 in
theorem refcheck5 (x : CX) (w : World) (hs : x.short) (hk : x.kind = 5) :
    Calls Tryz.prog 16 #[x.value] w fun e w' => e = .returned (.int .i64 (cmdE x)) ∧ Below w.heap.size w w' := by
  obtain ⟨kd, client, seq, key, val, old, node⟩ := x
  obtain ⟨s1, s2, s3⟩ := hs
  simp only at hk s1 s2 s3
  subst hk
  have O := fun w1 => refOwned_calls 5 w1
  have M := fun w1 => refmember_calls 5 w1
  rw [(by decide : ownB 5 = true)] at O
  rw [(by decide : memB 5 = false)] at M
  have O := Lib.hid O
  have M := Lib.hid M
  have KY := fun w1 => refKey_calls (str key) w1 (by rw [str_size]; exact s1)
  have VL := fun w1 => refVal_calls (str val) w1 (by rw [str_size]; exact s2)
  have OL := fun w1 => refVal_calls (str old) w1 (by rw [str_size]; exact s3)
  rw [toL_str] at KY VL OL
  have KY := Lib.hid KY
  have VL := Lib.hid VL
  have OL := Lib.hid OL
  obtain ⟨W, hW⟩ : ∃ W, W = w.alloc (.cells #[.int .i64 5, .int .i64 client, .int .i64 seq, .string (str key), .string (str val), .string (str old), .int .i64 node] 23) := ⟨_, rfl⟩
  have hbW : Hid (Below w.heap.size w W) := by subst hW; exact (Below.refl _ _).alloc (Nat.le_refl _) _
  have hB : Hid (Blk W w.heap.size 23 #[.int .i64 5, .int .i64 client, .int .i64 seq, .string (str key), .string (str val), .string (str old), .int .i64 node]) := by subst hW; exact Blk.new _ _ _
  obtain ⟨kc, kf, hlt⟩ := hB.out.facts
  simp only [CX.value, CX.cells]
  obtain ⟨E, hE⟩ : ∃ E, Hid (cmdE ⟨5, client, seq, key, val, old, node⟩ = E) := ⟨_, rfl⟩
  rw [hE.out]
  have c0 := kc 0
  have c1 := kc 1
  have c2 := kc 2
  have c3 := kc 3
  have c4 := kc 4
  have c5 := kc 5
  have c6 := kc 6
  simp only [List.getElem?_toArray, List.getElem?_cons_zero, List.getElem?_cons_succ] at c0 c1 c2 c3 c4 c5 c6
  clear kc s1 s2 s3
  by_cases h0 : ¬ (1 ≤ client)
  · have hq : Hid (E = 6) := by
      show _ = _
      rw [← hE.out]
      simp [cmdE, kindOk, andTo, nOk, tOk, nF, tF, numOk, numF, txtOk, txtF, (by decide : fieldsI 5 = 15), (by decide : (bits .and .i64 15 1 == 0) = false), (by decide : (bits .and .i64 15 2 == 0) = false), (by decide : (bits .and .i64 15 4 == 0) = false), (by decide : (bits .and .i64 15 8 == 0) = false), (by decide : (bits .and .i64 15 16 == 0) = true), h0]
    have d0 : decide (client < 1) = true := decide_eq_true (by omega)
    clear hE h0
    go_enter Tryz.func16, Tryz.ntmps16
    go_wp2_with (fail)
    rw [← hW]
    clear hW
    go_wp2_with (fail)
    refine (O.out _).mono ?_
    rintro e w1 ⟨rfl, rfl⟩
    go_wp2_with (fail)
    go_ret
    exact ⟨ret_int hq.out.symm, hbW.out⟩
  have h0 := Classical.not_not.1 h0
  have d0 : decide (client < 1) = false := decide_eq_false (by omega)
  by_cases h1 : ¬ (client ≤ 8)
  · have hq : Hid (E = 6) := by
      show _ = _
      rw [← hE.out]
      simp [cmdE, kindOk, andTo, nOk, tOk, nF, tF, numOk, numF, txtOk, txtF, (by decide : fieldsI 5 = 15), (by decide : (bits .and .i64 15 1 == 0) = false), (by decide : (bits .and .i64 15 2 == 0) = false), (by decide : (bits .and .i64 15 4 == 0) = false), (by decide : (bits .and .i64 15 8 == 0) = false), (by decide : (bits .and .i64 15 16 == 0) = true), h0, h1]
    have d1 : decide (8 < client) = true := decide_eq_true (by omega)
    clear hE h0 h1
    go_enter Tryz.func16, Tryz.ntmps16
    go_wp2_with (fail)
    rw [← hW]
    clear hW
    go_wp2_with (fail)
    refine (O.out _).mono ?_
    rintro e w1 ⟨rfl, rfl⟩
    go_wp2_with (fail)
    go_ret
    exact ⟨ret_int hq.out.symm, hbW.out⟩
  have h1 := Classical.not_not.1 h1
  have d1 : decide (8 < client) = false := decide_eq_false (by omega)
  by_cases h2 : ¬ (1 ≤ seq)
  · have hq : Hid (E = 6) := by
      show _ = _
      rw [← hE.out]
      simp [cmdE, kindOk, andTo, nOk, tOk, nF, tF, numOk, numF, txtOk, txtF, (by decide : fieldsI 5 = 15), (by decide : (bits .and .i64 15 1 == 0) = false), (by decide : (bits .and .i64 15 2 == 0) = false), (by decide : (bits .and .i64 15 4 == 0) = false), (by decide : (bits .and .i64 15 8 == 0) = false), (by decide : (bits .and .i64 15 16 == 0) = true), h0, h1, h2]
    have d2 : decide (seq < 1) = true := decide_eq_true (by omega)
    clear hE h0 h1 h2
    go_enter Tryz.func16, Tryz.ntmps16
    go_wp2_with (fail)
    rw [← hW]
    clear hW
    go_wp2_with (fail)
    refine (O.out _).mono ?_
    rintro e w1 ⟨rfl, rfl⟩
    go_wp2_with (fail)
    go_ret
    exact ⟨ret_int hq.out.symm, hbW.out⟩
  have h2 := Classical.not_not.1 h2
  have d2 : decide (seq < 1) = false := decide_eq_false (by omega)
  by_cases h3 : ¬ (seq ≤ 4294967296)
  · have hq : Hid (E = 6) := by
      show _ = _
      rw [← hE.out]
      simp [cmdE, kindOk, andTo, nOk, tOk, nF, tF, numOk, numF, txtOk, txtF, (by decide : fieldsI 5 = 15), (by decide : (bits .and .i64 15 1 == 0) = false), (by decide : (bits .and .i64 15 2 == 0) = false), (by decide : (bits .and .i64 15 4 == 0) = false), (by decide : (bits .and .i64 15 8 == 0) = false), (by decide : (bits .and .i64 15 16 == 0) = true), h0, h1, h2, h3]
    have d3 : decide (4294967296 < seq) = true := decide_eq_true (by omega)
    clear hE h0 h1 h2 h3
    go_enter Tryz.func16, Tryz.ntmps16
    go_wp2_with (fail)
    rw [← hW]
    clear hW
    go_wp2_with (fail)
    refine (O.out _).mono ?_
    rintro e w1 ⟨rfl, rfl⟩
    go_wp2_with (fail)
    go_ret
    exact ⟨ret_int hq.out.symm, hbW.out⟩
  have h3 := Classical.not_not.1 h3
  have d3 : decide (4294967296 < seq) = false := decide_eq_false (by omega)
  by_cases h4 : ¬ (isKey key = true)
  · have hq : Hid (E = 7) := by
      show _ = _
      rw [← hE.out]
      simp [cmdE, kindOk, andTo, nOk, tOk, nF, tF, numOk, numF, txtOk, txtF, (by decide : fieldsI 5 = 15), (by decide : (bits .and .i64 15 1 == 0) = false), (by decide : (bits .and .i64 15 2 == 0) = false), (by decide : (bits .and .i64 15 4 == 0) = false), (by decide : (bits .and .i64 15 8 == 0) = false), (by decide : (bits .and .i64 15 16 == 0) = true), h0, h1, h2, h3, h4]
    have d4 : isKey key = false := by simpa using h4
    clear hE h0 h1 h2 h3 h4
    go_enter Tryz.func16, Tryz.ntmps16
    go_wp2_with (fail)
    rw [← hW]
    clear hW
    go_wp2_with (fail)
    refine (O.out _).mono ?_
    rintro e w1 ⟨rfl, rfl⟩
    go_wp2_with (fail)
    refine (M.out _).mono ?_
    rintro e w1 ⟨rfl, rfl⟩
    go_wp2_with (fail)
    refine (KY.out _).mono ?_
    rintro e w1 ⟨rfl, rfl⟩
    go_wp2_with (fail)
    go_ret
    exact ⟨ret_int hq.out.symm, hbW.out⟩
  have h4 := Classical.not_not.1 h4
  have d4 : isKey key = true := h4
  by_cases h5 : ¬ (isVal val = true)
  · have hq : Hid (E = 7) := by
      show _ = _
      rw [← hE.out]
      simp [cmdE, kindOk, andTo, nOk, tOk, nF, tF, numOk, numF, txtOk, txtF, (by decide : fieldsI 5 = 15), (by decide : (bits .and .i64 15 1 == 0) = false), (by decide : (bits .and .i64 15 2 == 0) = false), (by decide : (bits .and .i64 15 4 == 0) = false), (by decide : (bits .and .i64 15 8 == 0) = false), (by decide : (bits .and .i64 15 16 == 0) = true), h0, h1, h2, h3, h4, h5]
    have d5 : isVal val = false := by simpa using h5
    clear hE h0 h1 h2 h3 h4 h5
    go_enter Tryz.func16, Tryz.ntmps16
    go_wp2_with (fail)
    rw [← hW]
    clear hW
    go_wp2_with (fail)
    refine (O.out _).mono ?_
    rintro e w1 ⟨rfl, rfl⟩
    go_wp2_with (fail)
    refine (M.out _).mono ?_
    rintro e w1 ⟨rfl, rfl⟩
    go_wp2_with (fail)
    refine (KY.out _).mono ?_
    rintro e w1 ⟨rfl, rfl⟩
    go_wp2_with (fail)
    refine (VL.out _).mono ?_
    rintro e w1 ⟨rfl, rfl⟩
    go_wp2_with (fail)
    go_ret
    exact ⟨ret_int hq.out.symm, hbW.out⟩
  have h5 := Classical.not_not.1 h5
  have d5 : isVal val = true := h5
  by_cases h6 : ¬ (isVal old = true)
  · have hq : Hid (E = 7) := by
      show _ = _
      rw [← hE.out]
      simp [cmdE, kindOk, andTo, nOk, tOk, nF, tF, numOk, numF, txtOk, txtF, (by decide : fieldsI 5 = 15), (by decide : (bits .and .i64 15 1 == 0) = false), (by decide : (bits .and .i64 15 2 == 0) = false), (by decide : (bits .and .i64 15 4 == 0) = false), (by decide : (bits .and .i64 15 8 == 0) = false), (by decide : (bits .and .i64 15 16 == 0) = true), h0, h1, h2, h3, h4, h5, h6]
    have d6 : isVal old = false := by simpa using h6
    clear hE h0 h1 h2 h3 h4 h5 h6
    go_enter Tryz.func16, Tryz.ntmps16
    go_wp2_with (fail)
    rw [← hW]
    clear hW
    go_wp2_with (fail)
    refine (O.out _).mono ?_
    rintro e w1 ⟨rfl, rfl⟩
    go_wp2_with (fail)
    refine (M.out _).mono ?_
    rintro e w1 ⟨rfl, rfl⟩
    go_wp2_with (fail)
    refine (KY.out _).mono ?_
    rintro e w1 ⟨rfl, rfl⟩
    go_wp2_with (fail)
    refine (VL.out _).mono ?_
    rintro e w1 ⟨rfl, rfl⟩
    go_wp2_with (fail)
    refine (OL.out _).mono ?_
    rintro e w1 ⟨rfl, rfl⟩
    go_wp2_with (fail)
    go_ret
    exact ⟨ret_int hq.out.symm, hbW.out⟩
  have h6 := Classical.not_not.1 h6
  have d6 : isVal old = true := h6
  by_cases h7 : ¬ (node = 0)
  · have hq : Hid (E = 3) := by
      show _ = _
      rw [← hE.out]
      simp [cmdE, kindOk, andTo, nOk, tOk, nF, tF, numOk, numF, txtOk, txtF, (by decide : fieldsI 5 = 15), (by decide : (bits .and .i64 15 1 == 0) = false), (by decide : (bits .and .i64 15 2 == 0) = false), (by decide : (bits .and .i64 15 4 == 0) = false), (by decide : (bits .and .i64 15 8 == 0) = false), (by decide : (bits .and .i64 15 16 == 0) = true), h0, h1, h2, h3, h4, h5, h6, h7]
    have d7 : (node != 0) = true := by simpa using h7
    clear hE h0 h1 h2 h3 h4 h5 h6 h7
    go_enter Tryz.func16, Tryz.ntmps16
    go_wp2_with (fail)
    rw [← hW]
    clear hW
    go_wp2_with (fail)
    refine (O.out _).mono ?_
    rintro e w1 ⟨rfl, rfl⟩
    go_wp2_with (fail)
    refine (M.out _).mono ?_
    rintro e w1 ⟨rfl, rfl⟩
    go_wp2_with (fail)
    refine (KY.out _).mono ?_
    rintro e w1 ⟨rfl, rfl⟩
    go_wp2_with (fail)
    refine (VL.out _).mono ?_
    rintro e w1 ⟨rfl, rfl⟩
    go_wp2_with (fail)
    refine (OL.out _).mono ?_
    rintro e w1 ⟨rfl, rfl⟩
    go_wp2_with (fail)
    refine (M.out _).mono ?_
    rintro e w1 ⟨rfl, rfl⟩
    go_wp2_with (fail)
    go_ret
    exact ⟨ret_int hq.out.symm, hbW.out⟩
  have h7 := Classical.not_not.1 h7
  have d7 : (node != 0) = false := by rw [h7]; rfl
  have hq : Hid (E = 0) := by
    show _ = _
    rw [← hE.out]
    simp [cmdE, kindOk, andTo, nOk, tOk, nF, tF, numOk, numF, txtOk, txtF, (by decide : fieldsI 5 = 15), (by decide : (bits .and .i64 15 1 == 0) = false), (by decide : (bits .and .i64 15 2 == 0) = false), (by decide : (bits .and .i64 15 4 == 0) = false), (by decide : (bits .and .i64 15 8 == 0) = false), (by decide : (bits .and .i64 15 16 == 0) = true), h0, h1, h2, h3, h4, h5, h6, h7]
  clear hE h0 h1 h2 h3 h4 h5 h6 h7
  go_enter Tryz.func16, Tryz.ntmps16
  go_wp2_with (fail)
  rw [← hW]
  clear hW
  go_wp2_with (fail)
  refine (O.out _).mono ?_
  rintro e w1 ⟨rfl, rfl⟩
  go_wp2_with (fail)
  refine (M.out _).mono ?_
  rintro e w1 ⟨rfl, rfl⟩
  go_wp2_with (fail)
  refine (KY.out _).mono ?_
  rintro e w1 ⟨rfl, rfl⟩
  go_wp2_with (fail)
  refine (VL.out _).mono ?_
  rintro e w1 ⟨rfl, rfl⟩
  go_wp2_with (fail)
  refine (OL.out _).mono ?_
  rintro e w1 ⟨rfl, rfl⟩
  go_wp2_with (fail)
  refine (M.out _).mono ?_
  rintro e w1 ⟨rfl, rfl⟩
  go_wp2_with (fail)
  go_ret
  exact ⟨ret_int hq.out.symm, hbW.out⟩
set_option maxHeartbeats 16000000 in
set_option maxRecDepth 100000 in
theorem refcheck6 (x : CX) (w : World) (hs : x.short) (hk : x.kind = 6) :
    Calls Tryz.prog 16 #[x.value] w fun e w' => e = .returned (.int .i64 (cmdE x)) ∧ Below w.heap.size w w' := by
  obtain ⟨kd, client, seq, key, val, old, node⟩ := x
  obtain ⟨s1, s2, s3⟩ := hs
  simp only at hk s1 s2 s3
  subst hk
  have O := fun w1 => refOwned_calls 6 w1
  have M := fun w1 => refmember_calls 6 w1
  rw [(by decide : ownB 6 = false)] at O
  rw [(by decide : memB 6 = false)] at M
  have O := Lib.hid O
  have M := Lib.hid M
  have KY := fun w1 => refKey_calls (str key) w1 (by rw [str_size]; exact s1)
  have VL := fun w1 => refVal_calls (str val) w1 (by rw [str_size]; exact s2)
  have OL := fun w1 => refVal_calls (str old) w1 (by rw [str_size]; exact s3)
  rw [toL_str] at KY VL OL
  have KY := Lib.hid KY
  have VL := Lib.hid VL
  have OL := Lib.hid OL
  obtain ⟨W, hW⟩ : ∃ W, W = w.alloc (.cells #[.int .i64 6, .int .i64 client, .int .i64 seq, .string (str key), .string (str val), .string (str old), .int .i64 node] 23) := ⟨_, rfl⟩
  have hbW : Hid (Below w.heap.size w W) := by subst hW; exact (Below.refl _ _).alloc (Nat.le_refl _) _
  have hB : Hid (Blk W w.heap.size 23 #[.int .i64 6, .int .i64 client, .int .i64 seq, .string (str key), .string (str val), .string (str old), .int .i64 node]) := by subst hW; exact Blk.new _ _ _
  obtain ⟨kc, kf, hlt⟩ := hB.out.facts
  simp only [CX.value, CX.cells]
  obtain ⟨E, hE⟩ : ∃ E, Hid (cmdE ⟨6, client, seq, key, val, old, node⟩ = E) := ⟨_, rfl⟩
  rw [hE.out]
  have c0 := kc 0
  have c1 := kc 1
  have c2 := kc 2
  have c3 := kc 3
  have c4 := kc 4
  have c5 := kc 5
  have c6 := kc 6
  simp only [List.getElem?_toArray, List.getElem?_cons_zero, List.getElem?_cons_succ] at c0 c1 c2 c3 c4 c5 c6
  clear kc s1 s2 s3
  by_cases h0 : ¬ (client = 0)
  · have hq : Hid (E = 3) := by
      show _ = _
      rw [← hE.out]
      simp [cmdE, kindOk, andTo, nOk, tOk, nF, tF, numOk, numF, txtOk, txtF, (by decide : fieldsI 6 = 0), (by decide : (bits .and .i64 0 1 == 0) = true), (by decide : (bits .and .i64 0 2 == 0) = true), (by decide : (bits .and .i64 0 4 == 0) = true), (by decide : (bits .and .i64 0 8 == 0) = true), (by decide : (bits .and .i64 0 16 == 0) = true), h0]
    have d0 : (client != 0) = true := by simpa using h0
    clear hE h0
    go_enter Tryz.func16, Tryz.ntmps16
    go_wp2_with (fail)
    rw [← hW]
    clear hW
    go_wp2_with (fail)
    refine (O.out _).mono ?_
    rintro e w1 ⟨rfl, rfl⟩
    go_wp2_with (fail)
    refine (M.out _).mono ?_
    rintro e w1 ⟨rfl, rfl⟩
    go_wp2_with (fail)
    go_ret
    exact ⟨ret_int hq.out.symm, hbW.out⟩
  have h0 := Classical.not_not.1 h0
  have d0 : (client != 0) = false := by rw [h0]; rfl
  by_cases h1 : ¬ (seq = 0)
  · have hq : Hid (E = 3) := by
      show _ = _
      rw [← hE.out]
      simp [cmdE, kindOk, andTo, nOk, tOk, nF, tF, numOk, numF, txtOk, txtF, (by decide : fieldsI 6 = 0), (by decide : (bits .and .i64 0 1 == 0) = true), (by decide : (bits .and .i64 0 2 == 0) = true), (by decide : (bits .and .i64 0 4 == 0) = true), (by decide : (bits .and .i64 0 8 == 0) = true), (by decide : (bits .and .i64 0 16 == 0) = true), h0, h1]
    have d1 : (seq != 0) = true := by simpa using h1
    clear hE h0 h1
    go_enter Tryz.func16, Tryz.ntmps16
    go_wp2_with (fail)
    rw [← hW]
    clear hW
    go_wp2_with (fail)
    refine (O.out _).mono ?_
    rintro e w1 ⟨rfl, rfl⟩
    go_wp2_with (fail)
    refine (M.out _).mono ?_
    rintro e w1 ⟨rfl, rfl⟩
    go_wp2_with (fail)
    go_ret
    exact ⟨ret_int hq.out.symm, hbW.out⟩
  have h1 := Classical.not_not.1 h1
  have d1 : (seq != 0) = false := by rw [h1]; rfl
  by_cases h2 : ¬ (key = [])
  · have hq : Hid (E = 3) := by
      show _ = _
      rw [← hE.out]
      simp [cmdE, kindOk, andTo, nOk, tOk, nF, tF, numOk, numF, txtOk, txtF, (by decide : fieldsI 6 = 0), (by decide : (bits .and .i64 0 1 == 0) = true), (by decide : (bits .and .i64 0 2 == 0) = true), (by decide : (bits .and .i64 0 4 == 0) = true), (by decide : (bits .and .i64 0 8 == 0) = true), (by decide : (bits .and .i64 0 16 == 0) = true), h0, h1, h2]
    have d2 : ¬ (str key).toList = [] := by rw [str_toList]; exact h2
    clear hE h0 h1 h2
    go_enter Tryz.func16, Tryz.ntmps16
    go_wp2_with (fail)
    rw [← hW]
    clear hW
    go_wp2_with (fail)
    refine (O.out _).mono ?_
    rintro e w1 ⟨rfl, rfl⟩
    go_wp2_with (fail)
    refine (M.out _).mono ?_
    rintro e w1 ⟨rfl, rfl⟩
    go_wp2_with (fail)
    go_ret
    exact ⟨ret_int hq.out.symm, hbW.out⟩
  have h2 := Classical.not_not.1 h2
  have d2 : (str key).toList = [] := by rw [str_toList]; exact h2
  by_cases h3 : ¬ (val = [])
  · have hq : Hid (E = 3) := by
      show _ = _
      rw [← hE.out]
      simp [cmdE, kindOk, andTo, nOk, tOk, nF, tF, numOk, numF, txtOk, txtF, (by decide : fieldsI 6 = 0), (by decide : (bits .and .i64 0 1 == 0) = true), (by decide : (bits .and .i64 0 2 == 0) = true), (by decide : (bits .and .i64 0 4 == 0) = true), (by decide : (bits .and .i64 0 8 == 0) = true), (by decide : (bits .and .i64 0 16 == 0) = true), h0, h1, h2, h3]
    have d3 : ¬ (str val).toList = [] := by rw [str_toList]; exact h3
    clear hE h0 h1 h2 h3
    go_enter Tryz.func16, Tryz.ntmps16
    go_wp2_with (fail)
    rw [← hW]
    clear hW
    go_wp2_with (fail)
    refine (O.out _).mono ?_
    rintro e w1 ⟨rfl, rfl⟩
    go_wp2_with (fail)
    refine (M.out _).mono ?_
    rintro e w1 ⟨rfl, rfl⟩
    go_wp2_with (fail)
    go_ret
    exact ⟨ret_int hq.out.symm, hbW.out⟩
  have h3 := Classical.not_not.1 h3
  have d3 : (str val).toList = [] := by rw [str_toList]; exact h3
  by_cases h4 : ¬ (old = [])
  · have hq : Hid (E = 3) := by
      show _ = _
      rw [← hE.out]
      simp [cmdE, kindOk, andTo, nOk, tOk, nF, tF, numOk, numF, txtOk, txtF, (by decide : fieldsI 6 = 0), (by decide : (bits .and .i64 0 1 == 0) = true), (by decide : (bits .and .i64 0 2 == 0) = true), (by decide : (bits .and .i64 0 4 == 0) = true), (by decide : (bits .and .i64 0 8 == 0) = true), (by decide : (bits .and .i64 0 16 == 0) = true), h0, h1, h2, h3, h4]
    have d4 : ¬ (str old).toList = [] := by rw [str_toList]; exact h4
    clear hE h0 h1 h2 h3 h4
    go_enter Tryz.func16, Tryz.ntmps16
    go_wp2_with (fail)
    rw [← hW]
    clear hW
    go_wp2_with (fail)
    refine (O.out _).mono ?_
    rintro e w1 ⟨rfl, rfl⟩
    go_wp2_with (fail)
    refine (M.out _).mono ?_
    rintro e w1 ⟨rfl, rfl⟩
    go_wp2_with (fail)
    go_ret
    exact ⟨ret_int hq.out.symm, hbW.out⟩
  have h4 := Classical.not_not.1 h4
  have d4 : (str old).toList = [] := by rw [str_toList]; exact h4
  by_cases h5 : ¬ (node = 0)
  · have hq : Hid (E = 3) := by
      show _ = _
      rw [← hE.out]
      simp [cmdE, kindOk, andTo, nOk, tOk, nF, tF, numOk, numF, txtOk, txtF, (by decide : fieldsI 6 = 0), (by decide : (bits .and .i64 0 1 == 0) = true), (by decide : (bits .and .i64 0 2 == 0) = true), (by decide : (bits .and .i64 0 4 == 0) = true), (by decide : (bits .and .i64 0 8 == 0) = true), (by decide : (bits .and .i64 0 16 == 0) = true), h0, h1, h2, h3, h4, h5]
    have d5 : (node != 0) = true := by simpa using h5
    clear hE h0 h1 h2 h3 h4 h5
    go_enter Tryz.func16, Tryz.ntmps16
    go_wp2_with (fail)
    rw [← hW]
    clear hW
    go_wp2_with (fail)
    refine (O.out _).mono ?_
    rintro e w1 ⟨rfl, rfl⟩
    go_wp2_with (fail)
    refine (M.out _).mono ?_
    rintro e w1 ⟨rfl, rfl⟩
    go_wp2_with (fail)
    refine (M.out _).mono ?_
    rintro e w1 ⟨rfl, rfl⟩
    go_wp2_with (fail)
    go_ret
    exact ⟨ret_int hq.out.symm, hbW.out⟩
  have h5 := Classical.not_not.1 h5
  have d5 : (node != 0) = false := by rw [h5]; rfl
  have hq : Hid (E = 0) := by
    show _ = _
    rw [← hE.out]
    simp [cmdE, kindOk, andTo, nOk, tOk, nF, tF, numOk, numF, txtOk, txtF, (by decide : fieldsI 6 = 0), (by decide : (bits .and .i64 0 1 == 0) = true), (by decide : (bits .and .i64 0 2 == 0) = true), (by decide : (bits .and .i64 0 4 == 0) = true), (by decide : (bits .and .i64 0 8 == 0) = true), (by decide : (bits .and .i64 0 16 == 0) = true), h0, h1, h2, h3, h4, h5]
  clear hE h0 h1 h2 h3 h4 h5
  go_enter Tryz.func16, Tryz.ntmps16
  go_wp2_with (fail)
  rw [← hW]
  clear hW
  go_wp2_with (fail)
  refine (O.out _).mono ?_
  rintro e w1 ⟨rfl, rfl⟩
  go_wp2_with (fail)
  refine (M.out _).mono ?_
  rintro e w1 ⟨rfl, rfl⟩
  go_wp2_with (fail)
  refine (M.out _).mono ?_
  rintro e w1 ⟨rfl, rfl⟩
  go_wp2_with (fail)
  go_ret
  exact ⟨ret_int hq.out.symm, hbW.out⟩
set_option maxHeartbeats 16000000 in
set_option maxRecDepth 100000 in
theorem refcheck7 (x : CX) (w : World) (hs : x.short) (hk : x.kind = 7) :
    Calls Tryz.prog 16 #[x.value] w fun e w' => e = .returned (.int .i64 (cmdE x)) ∧ Below w.heap.size w w' := by
  obtain ⟨kd, client, seq, key, val, old, node⟩ := x
  obtain ⟨s1, s2, s3⟩ := hs
  simp only at hk s1 s2 s3
  subst hk
  have O := fun w1 => refOwned_calls 7 w1
  have M := fun w1 => refmember_calls 7 w1
  rw [(by decide : ownB 7 = false)] at O
  rw [(by decide : memB 7 = true)] at M
  have O := Lib.hid O
  have M := Lib.hid M
  have KY := fun w1 => refKey_calls (str key) w1 (by rw [str_size]; exact s1)
  have VL := fun w1 => refVal_calls (str val) w1 (by rw [str_size]; exact s2)
  have OL := fun w1 => refVal_calls (str old) w1 (by rw [str_size]; exact s3)
  rw [toL_str] at KY VL OL
  have KY := Lib.hid KY
  have VL := Lib.hid VL
  have OL := Lib.hid OL
  obtain ⟨W, hW⟩ : ∃ W, W = w.alloc (.cells #[.int .i64 7, .int .i64 client, .int .i64 seq, .string (str key), .string (str val), .string (str old), .int .i64 node] 23) := ⟨_, rfl⟩
  have hbW : Hid (Below w.heap.size w W) := by subst hW; exact (Below.refl _ _).alloc (Nat.le_refl _) _
  have hB : Hid (Blk W w.heap.size 23 #[.int .i64 7, .int .i64 client, .int .i64 seq, .string (str key), .string (str val), .string (str old), .int .i64 node]) := by subst hW; exact Blk.new _ _ _
  obtain ⟨kc, kf, hlt⟩ := hB.out.facts
  simp only [CX.value, CX.cells]
  obtain ⟨E, hE⟩ : ∃ E, Hid (cmdE ⟨7, client, seq, key, val, old, node⟩ = E) := ⟨_, rfl⟩
  rw [hE.out]
  have c0 := kc 0
  have c1 := kc 1
  have c2 := kc 2
  have c3 := kc 3
  have c4 := kc 4
  have c5 := kc 5
  have c6 := kc 6
  simp only [List.getElem?_toArray, List.getElem?_cons_zero, List.getElem?_cons_succ] at c0 c1 c2 c3 c4 c5 c6
  clear kc s1 s2 s3
  by_cases h0 : ¬ (1 ≤ node)
  · have hq : Hid (E = 6) := by
      show _ = _
      rw [← hE.out]
      simp [cmdE, kindOk, andTo, nOk, tOk, nF, tF, numOk, numF, txtOk, txtF, (by decide : fieldsI 7 = 16), (by decide : (bits .and .i64 16 1 == 0) = true), (by decide : (bits .and .i64 16 2 == 0) = true), (by decide : (bits .and .i64 16 4 == 0) = true), (by decide : (bits .and .i64 16 8 == 0) = true), (by decide : (bits .and .i64 16 16 == 0) = false), h0]
    have d0 : decide (node < 1) = true := decide_eq_true (by omega)
    clear hE h0
    go_enter Tryz.func16, Tryz.ntmps16
    go_wp2_with (fail)
    rw [← hW]
    clear hW
    go_wp2_with (fail)
    refine (O.out _).mono ?_
    rintro e w1 ⟨rfl, rfl⟩
    go_wp2_with (fail)
    refine (M.out _).mono ?_
    rintro e w1 ⟨rfl, rfl⟩
    go_wp2_with (fail)
    go_ret
    exact ⟨ret_int hq.out.symm, hbW.out⟩
  have h0 := Classical.not_not.1 h0
  have d0 : decide (node < 1) = false := decide_eq_false (by omega)
  by_cases h1 : ¬ (node ≤ 9)
  · have hq : Hid (E = 6) := by
      show _ = _
      rw [← hE.out]
      simp [cmdE, kindOk, andTo, nOk, tOk, nF, tF, numOk, numF, txtOk, txtF, (by decide : fieldsI 7 = 16), (by decide : (bits .and .i64 16 1 == 0) = true), (by decide : (bits .and .i64 16 2 == 0) = true), (by decide : (bits .and .i64 16 4 == 0) = true), (by decide : (bits .and .i64 16 8 == 0) = true), (by decide : (bits .and .i64 16 16 == 0) = false), h0, h1]
    have d1 : decide (9 < node) = true := decide_eq_true (by omega)
    clear hE h0 h1
    go_enter Tryz.func16, Tryz.ntmps16
    go_wp2_with (fail)
    rw [← hW]
    clear hW
    go_wp2_with (fail)
    refine (O.out _).mono ?_
    rintro e w1 ⟨rfl, rfl⟩
    go_wp2_with (fail)
    refine (M.out _).mono ?_
    rintro e w1 ⟨rfl, rfl⟩
    go_wp2_with (fail)
    go_ret
    exact ⟨ret_int hq.out.symm, hbW.out⟩
  have h1 := Classical.not_not.1 h1
  have d1 : decide (9 < node) = false := decide_eq_false (by omega)
  by_cases h2 : ¬ (client = 0)
  · have hq : Hid (E = 3) := by
      show _ = _
      rw [← hE.out]
      simp [cmdE, kindOk, andTo, nOk, tOk, nF, tF, numOk, numF, txtOk, txtF, (by decide : fieldsI 7 = 16), (by decide : (bits .and .i64 16 1 == 0) = true), (by decide : (bits .and .i64 16 2 == 0) = true), (by decide : (bits .and .i64 16 4 == 0) = true), (by decide : (bits .and .i64 16 8 == 0) = true), (by decide : (bits .and .i64 16 16 == 0) = false), h0, h1, h2]
    have d2 : (client != 0) = true := by simpa using h2
    clear hE h0 h1 h2
    go_enter Tryz.func16, Tryz.ntmps16
    go_wp2_with (fail)
    rw [← hW]
    clear hW
    go_wp2_with (fail)
    refine (O.out _).mono ?_
    rintro e w1 ⟨rfl, rfl⟩
    go_wp2_with (fail)
    refine (M.out _).mono ?_
    rintro e w1 ⟨rfl, rfl⟩
    go_wp2_with (fail)
    go_ret
    exact ⟨ret_int hq.out.symm, hbW.out⟩
  have h2 := Classical.not_not.1 h2
  have d2 : (client != 0) = false := by rw [h2]; rfl
  by_cases h3 : ¬ (seq = 0)
  · have hq : Hid (E = 3) := by
      show _ = _
      rw [← hE.out]
      simp [cmdE, kindOk, andTo, nOk, tOk, nF, tF, numOk, numF, txtOk, txtF, (by decide : fieldsI 7 = 16), (by decide : (bits .and .i64 16 1 == 0) = true), (by decide : (bits .and .i64 16 2 == 0) = true), (by decide : (bits .and .i64 16 4 == 0) = true), (by decide : (bits .and .i64 16 8 == 0) = true), (by decide : (bits .and .i64 16 16 == 0) = false), h0, h1, h2, h3]
    have d3 : (seq != 0) = true := by simpa using h3
    clear hE h0 h1 h2 h3
    go_enter Tryz.func16, Tryz.ntmps16
    go_wp2_with (fail)
    rw [← hW]
    clear hW
    go_wp2_with (fail)
    refine (O.out _).mono ?_
    rintro e w1 ⟨rfl, rfl⟩
    go_wp2_with (fail)
    refine (M.out _).mono ?_
    rintro e w1 ⟨rfl, rfl⟩
    go_wp2_with (fail)
    go_ret
    exact ⟨ret_int hq.out.symm, hbW.out⟩
  have h3 := Classical.not_not.1 h3
  have d3 : (seq != 0) = false := by rw [h3]; rfl
  by_cases h4 : ¬ (key = [])
  · have hq : Hid (E = 3) := by
      show _ = _
      rw [← hE.out]
      simp [cmdE, kindOk, andTo, nOk, tOk, nF, tF, numOk, numF, txtOk, txtF, (by decide : fieldsI 7 = 16), (by decide : (bits .and .i64 16 1 == 0) = true), (by decide : (bits .and .i64 16 2 == 0) = true), (by decide : (bits .and .i64 16 4 == 0) = true), (by decide : (bits .and .i64 16 8 == 0) = true), (by decide : (bits .and .i64 16 16 == 0) = false), h0, h1, h2, h3, h4]
    have d4 : ¬ (str key).toList = [] := by rw [str_toList]; exact h4
    clear hE h0 h1 h2 h3 h4
    go_enter Tryz.func16, Tryz.ntmps16
    go_wp2_with (fail)
    rw [← hW]
    clear hW
    go_wp2_with (fail)
    refine (O.out _).mono ?_
    rintro e w1 ⟨rfl, rfl⟩
    go_wp2_with (fail)
    refine (M.out _).mono ?_
    rintro e w1 ⟨rfl, rfl⟩
    go_wp2_with (fail)
    go_ret
    exact ⟨ret_int hq.out.symm, hbW.out⟩
  have h4 := Classical.not_not.1 h4
  have d4 : (str key).toList = [] := by rw [str_toList]; exact h4
  by_cases h5 : ¬ (val = [])
  · have hq : Hid (E = 3) := by
      show _ = _
      rw [← hE.out]
      simp [cmdE, kindOk, andTo, nOk, tOk, nF, tF, numOk, numF, txtOk, txtF, (by decide : fieldsI 7 = 16), (by decide : (bits .and .i64 16 1 == 0) = true), (by decide : (bits .and .i64 16 2 == 0) = true), (by decide : (bits .and .i64 16 4 == 0) = true), (by decide : (bits .and .i64 16 8 == 0) = true), (by decide : (bits .and .i64 16 16 == 0) = false), h0, h1, h2, h3, h4, h5]
    have d5 : ¬ (str val).toList = [] := by rw [str_toList]; exact h5
    clear hE h0 h1 h2 h3 h4 h5
    go_enter Tryz.func16, Tryz.ntmps16
    go_wp2_with (fail)
    rw [← hW]
    clear hW
    go_wp2_with (fail)
    refine (O.out _).mono ?_
    rintro e w1 ⟨rfl, rfl⟩
    go_wp2_with (fail)
    refine (M.out _).mono ?_
    rintro e w1 ⟨rfl, rfl⟩
    go_wp2_with (fail)
    go_ret
    exact ⟨ret_int hq.out.symm, hbW.out⟩
  have h5 := Classical.not_not.1 h5
  have d5 : (str val).toList = [] := by rw [str_toList]; exact h5
  by_cases h6 : ¬ (old = [])
  · have hq : Hid (E = 3) := by
      show _ = _
      rw [← hE.out]
      simp [cmdE, kindOk, andTo, nOk, tOk, nF, tF, numOk, numF, txtOk, txtF, (by decide : fieldsI 7 = 16), (by decide : (bits .and .i64 16 1 == 0) = true), (by decide : (bits .and .i64 16 2 == 0) = true), (by decide : (bits .and .i64 16 4 == 0) = true), (by decide : (bits .and .i64 16 8 == 0) = true), (by decide : (bits .and .i64 16 16 == 0) = false), h0, h1, h2, h3, h4, h5, h6]
    have d6 : ¬ (str old).toList = [] := by rw [str_toList]; exact h6
    clear hE h0 h1 h2 h3 h4 h5 h6
    go_enter Tryz.func16, Tryz.ntmps16
    go_wp2_with (fail)
    rw [← hW]
    clear hW
    go_wp2_with (fail)
    refine (O.out _).mono ?_
    rintro e w1 ⟨rfl, rfl⟩
    go_wp2_with (fail)
    refine (M.out _).mono ?_
    rintro e w1 ⟨rfl, rfl⟩
    go_wp2_with (fail)
    go_ret
    exact ⟨ret_int hq.out.symm, hbW.out⟩
  have h6 := Classical.not_not.1 h6
  have d6 : (str old).toList = [] := by rw [str_toList]; exact h6
  have hq : Hid (E = 0) := by
    show _ = _
    rw [← hE.out]
    simp [cmdE, kindOk, andTo, nOk, tOk, nF, tF, numOk, numF, txtOk, txtF, (by decide : fieldsI 7 = 16), (by decide : (bits .and .i64 16 1 == 0) = true), (by decide : (bits .and .i64 16 2 == 0) = true), (by decide : (bits .and .i64 16 4 == 0) = true), (by decide : (bits .and .i64 16 8 == 0) = true), (by decide : (bits .and .i64 16 16 == 0) = false), h0, h1, h2, h3, h4, h5, h6]
  clear hE h0 h1 h2 h3 h4 h5 h6
  go_enter Tryz.func16, Tryz.ntmps16
  go_wp2_with (fail)
  rw [← hW]
  clear hW
  go_wp2_with (fail)
  refine (O.out _).mono ?_
  rintro e w1 ⟨rfl, rfl⟩
  go_wp2_with (fail)
  refine (M.out _).mono ?_
  rintro e w1 ⟨rfl, rfl⟩
  go_wp2_with (fail)
  refine (M.out _).mono ?_
  rintro e w1 ⟨rfl, rfl⟩
  go_wp2_with (fail)
  go_ret
  exact ⟨ret_int hq.out.symm, hbW.out⟩
set_option maxHeartbeats 16000000 in
set_option maxRecDepth 100000 in
theorem refcheck8 (x : CX) (w : World) (hs : x.short) (hk : x.kind = 8) :
    Calls Tryz.prog 16 #[x.value] w fun e w' => e = .returned (.int .i64 (cmdE x)) ∧ Below w.heap.size w w' := by
  obtain ⟨kd, client, seq, key, val, old, node⟩ := x
  obtain ⟨s1, s2, s3⟩ := hs
  simp only at hk s1 s2 s3
  subst hk
  have O := fun w1 => refOwned_calls 8 w1
  have M := fun w1 => refmember_calls 8 w1
  rw [(by decide : ownB 8 = false)] at O
  rw [(by decide : memB 8 = true)] at M
  have O := Lib.hid O
  have M := Lib.hid M
  have KY := fun w1 => refKey_calls (str key) w1 (by rw [str_size]; exact s1)
  have VL := fun w1 => refVal_calls (str val) w1 (by rw [str_size]; exact s2)
  have OL := fun w1 => refVal_calls (str old) w1 (by rw [str_size]; exact s3)
  rw [toL_str] at KY VL OL
  have KY := Lib.hid KY
  have VL := Lib.hid VL
  have OL := Lib.hid OL
  obtain ⟨W, hW⟩ : ∃ W, W = w.alloc (.cells #[.int .i64 8, .int .i64 client, .int .i64 seq, .string (str key), .string (str val), .string (str old), .int .i64 node] 23) := ⟨_, rfl⟩
  have hbW : Hid (Below w.heap.size w W) := by subst hW; exact (Below.refl _ _).alloc (Nat.le_refl _) _
  have hB : Hid (Blk W w.heap.size 23 #[.int .i64 8, .int .i64 client, .int .i64 seq, .string (str key), .string (str val), .string (str old), .int .i64 node]) := by subst hW; exact Blk.new _ _ _
  obtain ⟨kc, kf, hlt⟩ := hB.out.facts
  simp only [CX.value, CX.cells]
  obtain ⟨E, hE⟩ : ∃ E, Hid (cmdE ⟨8, client, seq, key, val, old, node⟩ = E) := ⟨_, rfl⟩
  rw [hE.out]
  have c0 := kc 0
  have c1 := kc 1
  have c2 := kc 2
  have c3 := kc 3
  have c4 := kc 4
  have c5 := kc 5
  have c6 := kc 6
  simp only [List.getElem?_toArray, List.getElem?_cons_zero, List.getElem?_cons_succ] at c0 c1 c2 c3 c4 c5 c6
  clear kc s1 s2 s3
  by_cases h0 : ¬ (1 ≤ node)
  · have hq : Hid (E = 6) := by
      show _ = _
      rw [← hE.out]
      simp [cmdE, kindOk, andTo, nOk, tOk, nF, tF, numOk, numF, txtOk, txtF, (by decide : fieldsI 8 = 16), (by decide : (bits .and .i64 16 1 == 0) = true), (by decide : (bits .and .i64 16 2 == 0) = true), (by decide : (bits .and .i64 16 4 == 0) = true), (by decide : (bits .and .i64 16 8 == 0) = true), (by decide : (bits .and .i64 16 16 == 0) = false), h0]
    have d0 : decide (node < 1) = true := decide_eq_true (by omega)
    clear hE h0
    go_enter Tryz.func16, Tryz.ntmps16
    go_wp2_with (fail)
    rw [← hW]
    clear hW
    go_wp2_with (fail)
    refine (O.out _).mono ?_
    rintro e w1 ⟨rfl, rfl⟩
    go_wp2_with (fail)
    refine (M.out _).mono ?_
    rintro e w1 ⟨rfl, rfl⟩
    go_wp2_with (fail)
    go_ret
    exact ⟨ret_int hq.out.symm, hbW.out⟩
  have h0 := Classical.not_not.1 h0
  have d0 : decide (node < 1) = false := decide_eq_false (by omega)
  by_cases h1 : ¬ (node ≤ 9)
  · have hq : Hid (E = 6) := by
      show _ = _
      rw [← hE.out]
      simp [cmdE, kindOk, andTo, nOk, tOk, nF, tF, numOk, numF, txtOk, txtF, (by decide : fieldsI 8 = 16), (by decide : (bits .and .i64 16 1 == 0) = true), (by decide : (bits .and .i64 16 2 == 0) = true), (by decide : (bits .and .i64 16 4 == 0) = true), (by decide : (bits .and .i64 16 8 == 0) = true), (by decide : (bits .and .i64 16 16 == 0) = false), h0, h1]
    have d1 : decide (9 < node) = true := decide_eq_true (by omega)
    clear hE h0 h1
    go_enter Tryz.func16, Tryz.ntmps16
    go_wp2_with (fail)
    rw [← hW]
    clear hW
    go_wp2_with (fail)
    refine (O.out _).mono ?_
    rintro e w1 ⟨rfl, rfl⟩
    go_wp2_with (fail)
    refine (M.out _).mono ?_
    rintro e w1 ⟨rfl, rfl⟩
    go_wp2_with (fail)
    go_ret
    exact ⟨ret_int hq.out.symm, hbW.out⟩
  have h1 := Classical.not_not.1 h1
  have d1 : decide (9 < node) = false := decide_eq_false (by omega)
  by_cases h2 : ¬ (client = 0)
  · have hq : Hid (E = 3) := by
      show _ = _
      rw [← hE.out]
      simp [cmdE, kindOk, andTo, nOk, tOk, nF, tF, numOk, numF, txtOk, txtF, (by decide : fieldsI 8 = 16), (by decide : (bits .and .i64 16 1 == 0) = true), (by decide : (bits .and .i64 16 2 == 0) = true), (by decide : (bits .and .i64 16 4 == 0) = true), (by decide : (bits .and .i64 16 8 == 0) = true), (by decide : (bits .and .i64 16 16 == 0) = false), h0, h1, h2]
    have d2 : (client != 0) = true := by simpa using h2
    clear hE h0 h1 h2
    go_enter Tryz.func16, Tryz.ntmps16
    go_wp2_with (fail)
    rw [← hW]
    clear hW
    go_wp2_with (fail)
    refine (O.out _).mono ?_
    rintro e w1 ⟨rfl, rfl⟩
    go_wp2_with (fail)
    refine (M.out _).mono ?_
    rintro e w1 ⟨rfl, rfl⟩
    go_wp2_with (fail)
    go_ret
    exact ⟨ret_int hq.out.symm, hbW.out⟩
  have h2 := Classical.not_not.1 h2
  have d2 : (client != 0) = false := by rw [h2]; rfl
  by_cases h3 : ¬ (seq = 0)
  · have hq : Hid (E = 3) := by
      show _ = _
      rw [← hE.out]
      simp [cmdE, kindOk, andTo, nOk, tOk, nF, tF, numOk, numF, txtOk, txtF, (by decide : fieldsI 8 = 16), (by decide : (bits .and .i64 16 1 == 0) = true), (by decide : (bits .and .i64 16 2 == 0) = true), (by decide : (bits .and .i64 16 4 == 0) = true), (by decide : (bits .and .i64 16 8 == 0) = true), (by decide : (bits .and .i64 16 16 == 0) = false), h0, h1, h2, h3]
    have d3 : (seq != 0) = true := by simpa using h3
    clear hE h0 h1 h2 h3
    go_enter Tryz.func16, Tryz.ntmps16
    go_wp2_with (fail)
    rw [← hW]
    clear hW
    go_wp2_with (fail)
    refine (O.out _).mono ?_
    rintro e w1 ⟨rfl, rfl⟩
    go_wp2_with (fail)
    refine (M.out _).mono ?_
    rintro e w1 ⟨rfl, rfl⟩
    go_wp2_with (fail)
    go_ret
    exact ⟨ret_int hq.out.symm, hbW.out⟩
  have h3 := Classical.not_not.1 h3
  have d3 : (seq != 0) = false := by rw [h3]; rfl
  by_cases h4 : ¬ (key = [])
  · have hq : Hid (E = 3) := by
      show _ = _
      rw [← hE.out]
      simp [cmdE, kindOk, andTo, nOk, tOk, nF, tF, numOk, numF, txtOk, txtF, (by decide : fieldsI 8 = 16), (by decide : (bits .and .i64 16 1 == 0) = true), (by decide : (bits .and .i64 16 2 == 0) = true), (by decide : (bits .and .i64 16 4 == 0) = true), (by decide : (bits .and .i64 16 8 == 0) = true), (by decide : (bits .and .i64 16 16 == 0) = false), h0, h1, h2, h3, h4]
    have d4 : ¬ (str key).toList = [] := by rw [str_toList]; exact h4
    clear hE h0 h1 h2 h3 h4
    go_enter Tryz.func16, Tryz.ntmps16
    go_wp2_with (fail)
    rw [← hW]
    clear hW
    go_wp2_with (fail)
    refine (O.out _).mono ?_
    rintro e w1 ⟨rfl, rfl⟩
    go_wp2_with (fail)
    refine (M.out _).mono ?_
    rintro e w1 ⟨rfl, rfl⟩
    go_wp2_with (fail)
    go_ret
    exact ⟨ret_int hq.out.symm, hbW.out⟩
  have h4 := Classical.not_not.1 h4
  have d4 : (str key).toList = [] := by rw [str_toList]; exact h4
  by_cases h5 : ¬ (val = [])
  · have hq : Hid (E = 3) := by
      show _ = _
      rw [← hE.out]
      simp [cmdE, kindOk, andTo, nOk, tOk, nF, tF, numOk, numF, txtOk, txtF, (by decide : fieldsI 8 = 16), (by decide : (bits .and .i64 16 1 == 0) = true), (by decide : (bits .and .i64 16 2 == 0) = true), (by decide : (bits .and .i64 16 4 == 0) = true), (by decide : (bits .and .i64 16 8 == 0) = true), (by decide : (bits .and .i64 16 16 == 0) = false), h0, h1, h2, h3, h4, h5]
    have d5 : ¬ (str val).toList = [] := by rw [str_toList]; exact h5
    clear hE h0 h1 h2 h3 h4 h5
    go_enter Tryz.func16, Tryz.ntmps16
    go_wp2_with (fail)
    rw [← hW]
    clear hW
    go_wp2_with (fail)
    refine (O.out _).mono ?_
    rintro e w1 ⟨rfl, rfl⟩
    go_wp2_with (fail)
    refine (M.out _).mono ?_
    rintro e w1 ⟨rfl, rfl⟩
    go_wp2_with (fail)
    go_ret
    exact ⟨ret_int hq.out.symm, hbW.out⟩
  have h5 := Classical.not_not.1 h5
  have d5 : (str val).toList = [] := by rw [str_toList]; exact h5
  by_cases h6 : ¬ (old = [])
  · have hq : Hid (E = 3) := by
      show _ = _
      rw [← hE.out]
      simp [cmdE, kindOk, andTo, nOk, tOk, nF, tF, numOk, numF, txtOk, txtF, (by decide : fieldsI 8 = 16), (by decide : (bits .and .i64 16 1 == 0) = true), (by decide : (bits .and .i64 16 2 == 0) = true), (by decide : (bits .and .i64 16 4 == 0) = true), (by decide : (bits .and .i64 16 8 == 0) = true), (by decide : (bits .and .i64 16 16 == 0) = false), h0, h1, h2, h3, h4, h5, h6]
    have d6 : ¬ (str old).toList = [] := by rw [str_toList]; exact h6
    clear hE h0 h1 h2 h3 h4 h5 h6
    go_enter Tryz.func16, Tryz.ntmps16
    go_wp2_with (fail)
    rw [← hW]
    clear hW
    go_wp2_with (fail)
    refine (O.out _).mono ?_
    rintro e w1 ⟨rfl, rfl⟩
    go_wp2_with (fail)
    refine (M.out _).mono ?_
    rintro e w1 ⟨rfl, rfl⟩
    go_wp2_with (fail)
    go_ret
    exact ⟨ret_int hq.out.symm, hbW.out⟩
  have h6 := Classical.not_not.1 h6
  have d6 : (str old).toList = [] := by rw [str_toList]; exact h6
  have hq : Hid (E = 0) := by
    show _ = _
    rw [← hE.out]
    simp [cmdE, kindOk, andTo, nOk, tOk, nF, tF, numOk, numF, txtOk, txtF, (by decide : fieldsI 8 = 16), (by decide : (bits .and .i64 16 1 == 0) = true), (by decide : (bits .and .i64 16 2 == 0) = true), (by decide : (bits .and .i64 16 4 == 0) = true), (by decide : (bits .and .i64 16 8 == 0) = true), (by decide : (bits .and .i64 16 16 == 0) = false), h0, h1, h2, h3, h4, h5, h6]
  clear hE h0 h1 h2 h3 h4 h5 h6
  go_enter Tryz.func16, Tryz.ntmps16
  go_wp2_with (fail)
  rw [← hW]
  clear hW
  go_wp2_with (fail)
  refine (O.out _).mono ?_
  rintro e w1 ⟨rfl, rfl⟩
  go_wp2_with (fail)
  refine (M.out _).mono ?_
  rintro e w1 ⟨rfl, rfl⟩
  go_wp2_with (fail)
  refine (M.out _).mono ?_
  rintro e w1 ⟨rfl, rfl⟩
  go_wp2_with (fail)
  go_ret
  exact ⟨ret_int hq.out.symm, hbW.out⟩
end Go.Proofs.YtdgbpmbknlhgmaaGreatDoor
