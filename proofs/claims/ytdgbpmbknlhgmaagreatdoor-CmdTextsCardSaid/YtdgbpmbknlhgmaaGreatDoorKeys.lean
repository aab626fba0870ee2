/-
The walks through runes.Plain, runes.Key and the reference's Plain, Key.
-/
import Derived.Test.YtdgbpmbknlhgmaaGreatDoorRunes
set_option linter.unusedVariables false
set_option linter.unusedSimpArgs false
namespace Go.Proofs.YtdgbpmbknlhgmaaGreatDoor
open Go.RowKit Qt

theorem i32_le (r k : Nat) : decide ((r : Int) ≤ (k : Int)) = decide (r ≤ k) := by
  by_cases h : r ≤ k
  · rw [decide_eq_true h, decide_eq_true (by omega)]
  · rw [decide_eq_false h, decide_eq_false (by omega)]
set_option maxHeartbeats 4000000 in
theorem plainR_calls (r : Nat) (w : World) :
    Calls Tryz.prog 114 #[.int .i32 (r : Int)] w fun e w' => e = .returned (.bool (plainR r)) ∧ w = w' := by
  have i97 : decide ((97 : Int) ≤ (r : Int)) = decide (97 ≤ r) := i32_ge r 97
  have i65 : decide ((65 : Int) ≤ (r : Int)) = decide (65 ≤ r) := i32_ge r 65
  have i48 : decide ((48 : Int) ≤ (r : Int)) = decide (48 ≤ r) := i32_ge r 48
  have i161 : decide ((161 : Int) ≤ (r : Int)) = decide (161 ≤ r) := i32_ge r 161
  have i122 : decide ((r : Int) ≤ (122 : Int)) = decide (r ≤ 122) := i32_le r 122
  have i90 : decide ((r : Int) ≤ (90 : Int)) = decide (r ≤ 90) := i32_le r 90
  have i57 : decide ((r : Int) ≤ (57 : Int)) = decide (r ≤ 57) := i32_le r 57
  have i45 : ((r : Int) == 45) = decide (r = 45) := i32_eq r 45
  have i95 : ((r : Int) == 95) = decide (r = 95) := i32_eq r 95
  have i46 : ((r : Int) == 46) = decide (r = 46) := i32_eq r 46
  have i58 : ((r : Int) == 58) = decide (r = 58) := i32_eq r 58
  have i65533 : ((r : Int) == 65533) = decide (r = 65533) := i32_eq r 65533
  have hp : Hid (plainR r = ((decide (97 ≤ r) && decide (r ≤ 122)) || ((decide (65 ≤ r) && decide (r ≤ 90)) || ((decide (48 ≤ r) && decide (r ≤ 57)) || (decide (r = 45) || (decide (r = 95) || (decide (r = 46) || (decide (r = 58) || (decide (161 ≤ r) && !decide (r = 65533)))))))))) := by
    show _ = _
    unfold plainR
    have : decide (r ≠ 65533) = !decide (r = 65533) := by simp
    rw [this]
  have hc : (r = 45) ∨ (r = 46) ∨ (r < 48 ∧ r ≠ 45 ∧ r ≠ 46) ∨ (48 ≤ r ∧ r ≤ 57) ∨ (r = 58) ∨ (58 < r ∧ r < 65) ∨ (65 ≤ r ∧ r ≤ 90) ∨ (r = 95) ∨ (90 < r ∧ r < 97 ∧ r ≠ 95) ∨ (97 ≤ r ∧ r ≤ 122) ∨ (122 < r ∧ r < 161) ∨ (r = 65533) ∨ (161 ≤ r ∧ r ≠ 65533) := by omega
  rcases hc with h | h | h | h | h | h | h | h | h | h | h | h | h
  all_goals
    first | rw [decide_eq_true (p := 97 ≤ r) (by omega)] at i97 hp | rw [decide_eq_false (p := 97 ≤ r) (by omega)] at i97 hp
    first | rw [decide_eq_true (p := 65 ≤ r) (by omega)] at i65 hp | rw [decide_eq_false (p := 65 ≤ r) (by omega)] at i65 hp
    first | rw [decide_eq_true (p := 48 ≤ r) (by omega)] at i48 hp | rw [decide_eq_false (p := 48 ≤ r) (by omega)] at i48 hp
    first | rw [decide_eq_true (p := 161 ≤ r) (by omega)] at i161 hp | rw [decide_eq_false (p := 161 ≤ r) (by omega)] at i161 hp
    first | rw [decide_eq_true (p := r ≤ 122) (by omega)] at i122 hp | rw [decide_eq_false (p := r ≤ 122) (by omega)] at i122 hp
    first | rw [decide_eq_true (p := r ≤ 90) (by omega)] at i90 hp | rw [decide_eq_false (p := r ≤ 90) (by omega)] at i90 hp
    first | rw [decide_eq_true (p := r ≤ 57) (by omega)] at i57 hp | rw [decide_eq_false (p := r ≤ 57) (by omega)] at i57 hp
    first | rw [decide_eq_true (p := r = 45) (by omega)] at i45 hp | rw [decide_eq_false (p := r = 45) (by omega)] at i45 hp
    first | rw [decide_eq_true (p := r = 95) (by omega)] at i95 hp | rw [decide_eq_false (p := r = 95) (by omega)] at i95 hp
    first | rw [decide_eq_true (p := r = 46) (by omega)] at i46 hp | rw [decide_eq_false (p := r = 46) (by omega)] at i46 hp
    first | rw [decide_eq_true (p := r = 58) (by omega)] at i58 hp | rw [decide_eq_false (p := r = 58) (by omega)] at i58 hp
    first | rw [decide_eq_true (p := r = 65533) (by omega)] at i65533 hp | rw [decide_eq_false (p := r = 65533) (by omega)] at i65533 hp
    have hp' := hp.out
    simp only [Bool.and_true, Bool.and_false, Bool.true_and, Bool.false_and, Bool.or_true, Bool.or_false, Bool.true_or, Bool.false_or, Bool.not_true, Bool.not_false] at hp'
    have hf := Lib.hid hp'
    clear hp hp' h
    go_enter Tryz.func114, Tryz.ntmps114
    go_wp2
    go_ret
    exact ⟨ret_bool (by first | exact hf.out.symm | (rw [hf.out]; show (!((r : Int) == 65533)) = _; rw [i65533]; rfl)), rfl⟩

set_option maxHeartbeats 2000000 in
set_option maxRecDepth 1000000 in
theorem allPlain_calls (s : ByteArray) (w : World) (hs : s.size ≤ 1000000) :
    Calls Tryz.prog 113 #[.string s, .func (.func 114) #[] #[]] w fun e w' => e = .returned (.bool (allR plainR (toL s))) ∧ Below w.heap.size w w' := by
  go_enter Tryz.func113, Tryz.ntmps113
  go_wp2
  go_loopw [] (fun wr => ∃ pos : Nat, wr.heap[w.heap.size]? = some (.stringIter s pos) ∧ Below w.heap.size w wr ∧ Hid (allR plainR (toL s) = allR plainR ((toL s).drop pos)) ∧ pos ≤ s.size) (fun wr => s.size - wr.iterPos w.heap.size)
  case atStart => exact ⟨0, by simpa using World.iter_heap w s 0, (Below.refl _ _).alloc (Nat.le_refl _) _, rfl, by omega⟩
  case round =>
    obtain ⟨pos, hit, hbw, hall, hps⟩ := hrel
    have hsz : w.heap.size < wr.heap.size := (Array.getElem?_eq_some_iff.1 hit).1
    by_cases hp : pos < s.size
    · have hnx : ∀ ty, (Instr.next (.pointer (some ⟨w.heap.size, 0, none⟩)) true ty).run Tryz.prog wr = _ := fun ty => Lib.run_next_any_at wr w.heap.size s pos ty hit hp
      have hne := drop_ne hp
      have hdp := dec_pos _ hne
      rw [List.length_drop, toL_size] at hdp
      rw [dec_at] at hnx
      rw [show s.data.toList = toL s from rfl] at hnx
      have hst : Hid (allR plainR (toL s) = (plainR (dec ((toL s).drop pos)).1 && allR plainR ((toL s).drop (pos + (dec ((toL s).drop pos)).2)))) := by show _ = _; rw [hall.out, allR_step _ hne, List.drop_drop]
      clear hne hall
      generalize dec ((toL s).drop pos) = d at *
      obtain ⟨r, n⟩ := d
      simp only at *
      have hit2 := Lib.iterAt_heap wr w.heap.size s pos (pos + n) hit
      have hbw2 := Lib.below_iterAt hbw (k := w.heap.size) (by omega) s (pos + n)
      have hip : wr.iterPos w.heap.size = pos := by simp only [World.iterPos, hit]
      clear hit
      generalize hwa : wr.iterAt w.heap.size s (pos + n) = wa at *
      have H := plainR_calls r wa
      generalize plainR r = pr at *
      clear hwa
      cases pr
      · have hff : Hid (allR plainR (toL s) = false) := by show _ = _; rw [hst.out]; rfl
        clear hst hip
        go_wp2_with (fail)
        refine H.mono ?_
        rintro e W1 ⟨rfl, rfl⟩
        go_wp2
        go_ret
        exact ⟨ret_bool hff.out.symm, hbw2⟩
      · have hff : Hid (allR plainR (toL s) = allR plainR ((toL s).drop (pos + n))) := by show _ = _; rw [hst.out]; rfl
        clear hst
        go_wp2_with (fail)
        refine H.mono ?_
        rintro e W1 ⟨rfl, rfl⟩
        go_wp2
        go_roundw
        case rel => exact ⟨pos + n, hit2, hbw2, hff, by omega⟩
        case measure =>
          rw [hip]
          simp only [World.iterPos, hit2]
          omega
    · have hnx : ∀ ty, (Instr.next (.pointer (some ⟨w.heap.size, 0, none⟩)) true ty).run Tryz.prog wr = _ := fun ty => Lib.run_next_end_at wr w.heap.size s pos ty hit hp
      have hff : Hid (allR plainR (toL s) = true) := by
        show _ = _
        rw [hall.out, List.drop_eq_nil_of_le (by rw [toL_size]; omega), allR_nil]
      clear hall
      go_wp2
      go_ret
      exact ⟨ret_bool hff.out.symm, hbw⟩

set_option maxHeartbeats 1000000 in
set_option maxRecDepth 100000 in
theorem key_calls (s : ByteArray) (w : World) (hs : s.size ≤ 1000000) (hT : Lib.Utf8Tabs 0 1 w) :
    Calls Tryz.prog 84 #[.string s] w fun e w' => e = .returned (.bool (isKey (toL s))) ∧ Below w.heap.size w w' := by
  have hv : Hid (isKey (toL s) = (decide (1 ≤ s.size) && (decide (s.size ≤ 24) && (clean (toL s) && allR plainR (toL s))))) := by show _ = _; unfold isKey; rw [toL_size]
  have H1 := whole_calls s w hs hT
  have H2 := Lib.hid (fun w1 => allPlain_calls s w1 hs)
  generalize clean (toL s) = c at *
  generalize allR plainR (toL s) = a at *
  have hem : s.toList = [] ↔ s.size = 0 := by
    rw [ByteArray.toList_eq]
    constructor
    · intro e
      have := congrArg List.length e
      simpa [Array.length_toList] using this
    · intro e
      exact List.eq_nil_of_length_eq_zero (by rw [Array.length_toList]; exact e)
  by_cases h0 : s.size = 0
  · have hf : Hid (isKey (toL s) = false) := by show _ = _; rw [hv.out, decide_eq_false (p := 1 ≤ s.size) (by omega), Bool.false_and]
    have he := hem.2 h0
    clear hv hem
    go_enter Tryz.func84, Tryz.ntmps84
    go_wp2_with (fail)
    go_ret
    exact ⟨ret_bool hf.out.symm, Below.refl _ _⟩
  have he : ¬ s.toList = [] := fun e => h0 (hem.1 e)
  clear hem
  by_cases h48 : s.size ≤ 24
  · cases c
    · have hf : Hid (isKey (toL s) = false) := by show _ = _; rw [hv.out, Bool.false_and, Bool.and_false, Bool.and_false]
      clear hv
      go_enter Tryz.func84, Tryz.ntmps84
      go_wp2_with (fail)
      refine H1.mono ?_
      rintro e w1 ⟨rfl, hb1⟩
      go_wp2_with (fail)
      go_ret
      exact ⟨ret_bool hf.out.symm, hb1⟩
    · have hf : Hid (isKey (toL s) = a) := by show _ = _; rw [hv.out, decide_eq_true h48, decide_eq_true (p := 1 ≤ s.size) (by omega), Bool.true_and, Bool.true_and, Bool.true_and]
      clear hv
      go_enter Tryz.func84, Tryz.ntmps84
      go_wp2_with (fail)
      refine H1.mono ?_
      rintro e w1 ⟨rfl, hb1⟩
      go_wp2_with (fail)
      refine (H2.out _).mono ?_
      rintro e w2 ⟨rfl, hb2⟩
      go_wp2_with (fail)
      go_ret
      exact ⟨ret_bool (by rw [hf.out]; simp [he]), hb1.trans (hb2.mono hb1.size)⟩
  · have hf : Hid (isKey (toL s) = false) := by show _ = _; rw [hv.out, decide_eq_false h48, Bool.false_and, Bool.and_false]
    clear hv
    go_enter Tryz.func84, Tryz.ntmps84
    go_wp2_with (fail)
    go_ret
    exact ⟨ret_bool hf.out.symm, Below.refl _ _⟩

/-- the letters of a key, as the reference has them. -/
def plainL : List UInt8 := [97, 98, 99, 100, 101, 102, 103, 104, 105, 106, 107, 108, 109, 110, 111, 112, 113, 114, 115, 116, 117, 118, 119, 120, 121, 122, 65, 66, 67, 68, 69, 70, 71, 72, 73, 74, 75, 76, 77, 78, 79, 80, 81, 82, 83, 84, 85, 86, 87, 88, 89, 90, 48, 49, 50, 51, 52, 53, 54, 55, 56, 57, 45, 95, 46, 58]
theorem plainL_spec (r : Nat) : plainR r = ((plainL.any fun c => c.toNat == r) || (decide (161 ≤ r) && decide (r ≠ 65533))) := by
  by_cases h : r < 128
  · have : ∀ r, r < 128 → plainR r = ((plainL.any fun c => c.toNat == r) || (decide (161 ≤ r) && decide (r ≠ 65533))) := by decide +kernel
    exact this r h
  · have h1 : (plainL.any fun c => c.toNat == r) = false := by
      rw [List.any_eq_false]
      have : ∀ c ∈ plainL, c.toNat < 128 := by decide +kernel
      intro c hc e
      have := this c hc
      rw [beq_iff_eq] at e
      omega
    rw [h1]
    unfold plainR
    rw [decide_eq_false (p := r ≤ 122) (by omega), decide_eq_false (p := r ≤ 90) (by omega), decide_eq_false (p := r ≤ 57) (by omega), decide_eq_false (p := r = 45) (by omega), decide_eq_false (p := r = 95) (by omega), decide_eq_false (p := r = 46) (by omega), decide_eq_false (p := r = 58) (by omega)]
    simp
set_option maxHeartbeats 1000000 in
set_option maxRecDepth 100000 in
theorem refPlain_calls (r : Nat) (w : World) (hr : r ≤ 1114111) :
    Calls Tryz.prog 79 #[.int .i64 (r : Int)] w fun e w' => e = .returned (.bool (plainR r)) ∧ w = w' := by
  have hsp := Lib.hid (plainL_spec r)
  obtain ⟨tl, htl⟩ : ∃ tl, Hid ((decide (161 ≤ r) && decide (r ≠ 65533)) = tl) := ⟨_, rfl⟩
  go_enter Tryz.func79, Tryz.ntmps79
  go_wp2
  generalize hS : (⟨(([97, 98, 99, 100, 101, 102, 103, 104, 105, 106, 107, 108, 109, 110, 111, 112, 113, 114, 115, 116, 117, 118, 119, 120, 121, 122, 65, 66, 67, 68, 69, 70, 71] : List UInt8).append [72, 73, 74, 75, 76, 77, 78, 79, 80, 81, 82, 83, 84, 85, 86, 87, 88, 89, 90, 48, 49, 50, 51, 52, 53, 54, 55, 56, 57, 45, 95, 46, 58]).toArray⟩ : ByteArray) = S
  have hSz : S.size = 66 := by rw [← hS]; rfl
  have hSl : Hid (toL S = plainL) := by show _ = _; rw [← hS]; rfl
  clear hS
  go_loop [4] (fun i => ∃ pos : Nat, i = .int .i64 (pos : Int) ∧ pos ≤ 66 ∧ Hid (plainR r = (((plainL.drop pos).any fun c => c.toNat == r) || tl))) (fun i => 66 - (intOf i).toNat)
  case atStart => exact ⟨0, rfl, by omega, by show _ = _; rw [hsp.out, htl.out]; rfl⟩
  case round =>
    obtain ⟨pos, rfl, hps, hq⟩ := hrel
    clear hsp
    by_cases hp : pos < S.size
    · obtain ⟨x, hat⟩ : ∃ x, ∀ h : pos < S.size, S[pos]'h = x := ⟨S[pos]'hp, fun _ => rfl⟩
      have hd := qend_at S pos hp x (hat hp)
      rw [hSl.out] at hd
      have hst : Hid (plainR r = ((x.toNat == r || (plainL.drop (pos + 1)).any fun c => c.toNat == r) || tl)) := by show _ = _; rw [hq.out, hd, List.any_cons]
      have hx := x.toNat_lt
      have e1 : (wrap64 (x.toNat : Int) == (r : Int)) = (x.toNat == r) := by
        rw [show wrap64 (x.toNat : Int) = (x.toNat : Int) from by unfold wrap64; omega]
        by_cases h : x.toNat = r
        · rw [h]; simp
        · rw [beq_eq_false_iff_ne.2 h, beq_eq_false_iff_ne.2 (by omega)]
      have hp66 : (pos : Int) < 66 := by omega
      clear hd hq hx
      obtain ⟨bx, hbx⟩ : ∃ bx, Hid ((x.toNat == r) = bx) := ⟨_, rfl⟩
      rw [hbx.out] at e1
      cases bx
      · have hf : Hid (plainR r = (((plainL.drop (pos + 1)).any fun c => c.toNat == r) || tl)) := by show _ = _; rw [hst.out, hbx.out, Bool.false_or]
        clear hst
        go_wp2
        go_round
        case rel => exact ⟨pos + 1, by go_num, by omega, hf⟩
        case measure => simp [intOf]; omega
      · have hf : Hid (plainR r = true) := by show _ = _; rw [hst.out, hbx.out, Bool.true_or, Bool.true_or]
        clear hst
        go_wp2
        go_ret
        exact ⟨ret_bool hf.out.symm, rfl⟩
    · have hf : Hid (plainR r = tl) := by show _ = _; rw [hq.out, List.drop_eq_nil_of_le (by show 66 ≤ pos; omega)]; rfl
      have e1 : decide ((161 : Int) ≤ (r : Int)) = decide (161 ≤ r) := i32_ge r 161
      have e2 : ((r : Int) == 65533) = decide (r = 65533) := i32_eq r 65533
      have e3 : decide (r ≠ 65533) = !decide (r = 65533) := by simp
      rw [e3] at htl
      clear hq e3
      by_cases h1 : 161 ≤ r
      · rw [decide_eq_true h1] at e1 htl
        clear h1
        go_wp2
        go_ret
        refine ⟨ret_bool ?_, rfl⟩
        rw [hf.out, ← htl.out, Bool.true_and, ← e2]; rfl
      · rw [decide_eq_false h1] at e1 htl
        clear h1
        go_wp2
        go_ret
        exact ⟨ret_bool (by rw [hf.out, ← htl.out, Bool.false_and]), rfl⟩

set_option maxHeartbeats 2000000 in
set_option maxRecDepth 100000 in
theorem refKey_calls (s : ByteArray) (w : World) (hs : s.size ≤ 1000000) :
    Calls Tryz.prog 42 #[.string s] w fun e w' => e = .returned (.bool (isKey (toL s))) ∧ w = w' := by
  have hsz := Lib.hid (toL_size s)
  have hv : Hid (isKey (toL s) = (decide (1 ≤ s.size) && (decide (s.size ≤ 24) && keyGo (toL s)))) := by show _ = _; unfold isKey keyGo; rw [toL_size]
  by_cases h0 : s.size < 1
  · have hf : Hid (isKey (toL s) = false) := by show _ = _; rw [hv.out, decide_eq_false (p := 1 ≤ s.size) (by omega), Bool.false_and]
    clear hv
    go_enter Tryz.func42, Tryz.ntmps42
    go_wp2_with (fail)
    go_ret
    exact ⟨ret_bool hf.out.symm, rfl⟩
  by_cases h1 : 24 < s.size
  · have hf : Hid (isKey (toL s) = false) := by show _ = _; rw [hv.out, decide_eq_false (p := s.size ≤ 24) (by omega), Bool.false_and, Bool.and_false]
    clear hv
    go_enter Tryz.func42, Tryz.ntmps42
    go_wp2_with (fail)
    go_ret
    exact ⟨ret_bool hf.out.symm, rfl⟩
  have hg : Hid (isKey (toL s) = keyGo (toL s)) := by show _ = _; rw [hv.out, decide_eq_true (p := s.size ≤ 24) (by omega), decide_eq_true (p := 1 ≤ s.size) (by omega), Bool.true_and, Bool.true_and]
  have d0 : decide ((s.size : Int) < 1) = false := decide_eq_false (by omega)
  have d1 : decide ((24 : Int) < (s.size : Int)) = false := decide_eq_false (by omega)
  clear hv h0 h1
  go_enter Tryz.func42, Tryz.ntmps42
  go_wp2_with (fail)
  clear d0 d1
  go_loop [3] (fun i => ∃ pos : Nat, i = .int .i64 (pos : Int) ∧ Hid (isKey (toL s) = keyGo ((toL s).drop pos)) ∧ pos ≤ s.size) (fun i => s.size - (intOf i).toNat)
  case atStart => exact ⟨0, rfl, hg, by omega⟩
  case round =>
    obtain ⟨pos, rfl, hbad, hps⟩ := hrel
    clear hg
    by_cases hp : pos < s.size
    · have hne := drop_ne hp
      have hdp := dec_pos _ hne
      rw [List.length_drop, hsz.out] at hdp
      have H := size_calls s pos w hs hp
      rw [size5_ill _ hne] at H
      have hi0 : ill ((toL s).drop pos) = true → Hid (isKey (toL s) = false) := fun h => by show _ = _; rw [hbad.out, keyGo_ill hne h]
      have hi1 : ill ((toL s).drop pos) = false → Hid (isKey (toL s) = (plainR (dec ((toL s).drop pos)).1 && keyGo ((toL s).drop (pos + (dec ((toL s).drop pos)).2)))) := fun h => by show _ = _; rw [hbad.out, keyGo_step hne h, List.drop_drop]
      have hr : (dec ((toL s).drop pos)).1 ≤ 1114111 := by
        rcases ill_cases _ hne with ⟨_, e⟩ | ⟨_, h2, e⟩ | ⟨_, _, _, _, h5, _⟩
        · rw [e]; decide
        · rw [e]; show (b0 _).toNat ≤ _; omega
        · exact h5
      clear hne hbad
      generalize ill ((toL s).drop pos) = il at *
      generalize dec ((toL s).drop pos) = d at *
      obtain ⟨r, n⟩ := d
      simp only at *
      cases il
      · have hf := hi1 rfl
        have H : Calls Tryz.prog 78 #[.string s, .int .i64 (pos : Int)] w fun e w' => e = .returned (.tuple #[.int .i64 (n : Int), .int .i64 (r : Int)]) ∧ w = w' := H
        have n0 : ((n : Int) == 0) = false := beq_eq_false_iff_ne.2 (by omega)
        have HP := refPlain_calls r w hr
        clear hi0 hi1
        generalize plainR r = pr at *
        cases pr
        · have hf2 : Hid (isKey (toL s) = false) := by show _ = _; rw [hf.out, Bool.false_and]
          clear hf
          go_wp2_with (fail)
          refine H.mono ?_
          rintro e W1 ⟨rfl, rfl⟩
          go_wp2_with (fail)
          refine HP.mono ?_
          rintro e W1 ⟨rfl, rfl⟩
          go_wp2
          go_ret
          exact ⟨ret_bool hf2.out.symm, rfl⟩
        · have hf2 : Hid (isKey (toL s) = keyGo ((toL s).drop (pos + n))) := by show _ = _; rw [hf.out, Bool.true_and]
          clear hf
          go_wp2_with (fail)
          refine H.mono ?_
          rintro e W1 ⟨rfl, rfl⟩
          go_wp2_with (fail)
          refine HP.mono ?_
          rintro e W1 ⟨rfl, rfl⟩
          go_wp2
          go_round
          case rel => exact ⟨pos + n, by go_num, hf2, by omega⟩
          case measure => simp [intOf]; omega
      · have hf := hi0 rfl
        have H : Calls Tryz.prog 78 #[.string s, .int .i64 (pos : Int)] w fun e w' => e = .returned (.tuple #[.int .i64 0, .int .i64 0]) ∧ w = w' := H
        clear hi0 hi1
        go_wp2_with (fail)
        refine H.mono ?_
        rintro e W1 ⟨rfl, rfl⟩
        go_wp2
        go_ret
        exact ⟨ret_bool hf.out.symm, rfl⟩
    · have hf : Hid (isKey (toL s) = true) := by
        show _ = _
        rw [hbad.out, List.drop_eq_nil_of_le (by rw [hsz.out]; omega), keyGo_nil]
      clear hbad
      go_wp2
      go_ret
      exact ⟨ret_bool hf.out.symm, rfl⟩
end Go.Proofs.YtdgbpmbknlhgmaaGreatDoor
