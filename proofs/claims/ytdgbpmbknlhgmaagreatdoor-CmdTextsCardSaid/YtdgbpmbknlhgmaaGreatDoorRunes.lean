/-
The walks through runes.Bad, Whole, all, Val; changeoverref05.Bad, Val.
-/
import Derived.Test.YtdgbpmbknlhgmaaGreatDoorLawQ2
import Derived.Test.YtdgbpmbknlhgmaaGreatDoorSizeMath
set_option linter.unusedVariables false
set_option linter.unusedSimpArgs false
namespace Go.Proofs.YtdgbpmbknlhgmaaGreatDoor
open Go.RowKit Qt

theorem drop_ne {s : ByteArray} {pos : Nat} (hp : pos < s.size) : (toL s).drop pos ≠ [] := by
  intro e
  have := congrArg List.length e
  rw [List.length_drop, toL_size] at this
  simp at this; omega
theorem go_at_pos (s : ByteArray) (pos : Nat) (hp : pos < s.size) : Lib.decodeGo (s.extract pos s.size) = dec ((toL s).drop pos) := by
  rw [cut_eq s pos s.size (by omega), List.take_of_length_le (by rw [List.length_drop, toL_size]; exact Nat.le_refl _), decodeGo_str _ (drop_ne hp)]

set_option maxHeartbeats 2000000 in
set_option maxRecDepth 1000000 in
theorem bad_calls (s : ByteArray) (w : World) (hs : s.size ≤ 1000000) (hT : Lib.Utf8Tabs 0 1 w) :
    Calls Tryz.prog 132 #[.string s] w fun e w' => e = .returned (.int .i64 (badI (toL s) 0)) ∧ Below w.heap.size w w' := by
  go_enter Tryz.func132, Tryz.ntmps132
  go_wp2
  go_loopw [] (fun wr => ∃ pos : Nat, wr.heap[w.heap.size]? = some (.stringIter s pos) ∧ Below w.heap.size w wr ∧ Hid (badI (toL s) 0 = badI ((toL s).drop pos) pos) ∧ pos ≤ s.size) (fun wr => s.size - wr.iterPos w.heap.size)
  case atStart => exact ⟨0, by simpa using World.iter_heap w s 0, (Below.refl _ _).alloc (Nat.le_refl _) _, rfl, by omega⟩
  case round =>
    obtain ⟨pos, hit, hbw, hbad, hps⟩ := hrel
    have hsz : w.heap.size < wr.heap.size := (Array.getElem?_eq_some_iff.1 hit).1
    by_cases hp : pos < s.size
    · have hnx : ∀ ty, (Instr.next (.pointer (some ⟨w.heap.size, 0, none⟩)) true ty).run Tryz.prog wr = _ := fun ty => Lib.run_next_any_at wr w.heap.size s pos ty hit hp
      have hne := drop_ne hp
      have hdp := dec_pos _ hne
      rw [List.length_drop, toL_size] at hdp
      rw [dec_at] at hnx
      have hgo := go_at_pos s pos hp
      rw [show s.data.toList = toL s from rfl] at hnx
      have hir := ill_rune _ hne
      have hi0 : ill ((toL s).drop pos) = true → Hid (badI (toL s) 0 = pos) := fun h => by show _ = _; rw [hbad.out, badI_ill _ hne h]
      have hi1 : ill ((toL s).drop pos) = false → Hid (badI (toL s) 0 = badI ((toL s).drop (pos + (dec ((toL s).drop pos)).2)) (pos + (dec ((toL s).drop pos)).2)) := fun h => by show _ = _; rw [hbad.out, badI_step _ hne h, List.drop_drop]
      clear hne hbad
      generalize ill ((toL s).drop pos) = il at *
      generalize dec ((toL s).drop pos) = d at *
      obtain ⟨r, n⟩ := d
      simp only at *
      have hit2 := Lib.iterAt_heap wr w.heap.size s pos (pos + n) hit
      have hbw2 := Lib.below_iterAt hbw (k := w.heap.size) (by omega) s (pos + n)
      have hsz2 : w.heap.size < (wr.iterAt w.heap.size s (pos + n)).heap.size := by rw [Lib.iterAt_size]; omega
      have hip : wr.iterPos w.heap.size = pos := by simp only [World.iterPos, hit]
      have e65 : ((r : Int) == 65533) = decide (r = 65533) := i32_eq r 65533
      have n1 : ((n : Int) == 1) = decide (n = 1) := i32_eq n 1
      clear hit
      generalize hwa : wr.iterAt w.heap.size s (pos + n) = wa at *
      by_cases h65 : r = 65533
      · rw [decide_eq_true h65] at e65 hir
        have H := (Tryz.utf8_DecodeRuneInString (s.extract pos s.size) wa ((Utf8Tabs_below hT hbw2)))
        rw [hgo] at H
        by_cases hn : n = 1
        · rw [decide_eq_true hn] at n1 hir
          have hf := hi0 hir
          clear hi0 hi1 hir hn h65 hgo hwa hip
          go_wp2_with (fail)
          refine H.mono ?_
          rintro e W1 ⟨rfl, hb1⟩
          go_wp2
          go_ret
          exact ⟨ret_int hf.out.symm, hbw2.trans (hb1.mono (by omega))⟩
        · rw [decide_eq_false hn] at n1 hir
          have hf := hi1 hir
          clear hi0 hi1 hir hn h65 hgo hwa
          go_wp2_with (fail)
          refine H.mono ?_
          rintro e W1 ⟨rfl, hb1⟩
          have hit3 : W1.heap[w.heap.size]? = some (.stringIter s (pos + n)) := (hb1.block _ (Array.getElem?_eq_some_iff.1 hit2).1).trans hit2
          go_wp2
          go_roundw
          case rel => exact ⟨pos + n, hit3, hbw2.trans (hb1.mono (by omega)), hf, by omega⟩
          case measure =>
            rw [hip]
            simp only [World.iterPos, hit3]
            omega
      · rw [decide_eq_false h65] at e65 hir
        have hf := hi1 hir
        clear hi0 hi1 hir h65 hgo hwa
        go_wp2
        go_roundw
        case rel => exact ⟨pos + n, hit2, hbw2, hf, by omega⟩
        case measure =>
          rw [hip]
          simp only [World.iterPos, hit2]
          omega
    · have hnx : ∀ ty, (Instr.next (.pointer (some ⟨w.heap.size, 0, none⟩)) true ty).run Tryz.prog wr = _ := fun ty => Lib.run_next_end_at wr w.heap.size s pos ty hit hp
      have hf : Hid (badI (toL s) 0 = -1) := by
        show _ = _
        rw [hbad.out, List.drop_eq_nil_of_le (by rw [toL_size]; omega), badI_nil]
      clear hbad
      go_wp2
      go_ret
      exact ⟨ret_int hf.out.symm, hbw⟩

set_option maxHeartbeats 1000000 in
theorem whole_calls (s : ByteArray) (w : World) (hs : s.size ≤ 1000000) (hT : Lib.Utf8Tabs 0 1 w) :
    Calls Tryz.prog 112 #[.string s] w fun e w' => e = .returned (.bool (clean (toL s))) ∧ Below w.heap.size w w' := by
  have H := bad_calls s w hs hT
  have hc : Hid (clean (toL s) = decide (badI (toL s) 0 < 0)) := rfl
  generalize badI (toL s) 0 = b at *
  generalize clean (toL s) = c at *
  cases c
  · have hd : decide (b < 0) = false := hc.out.symm
    go_enter Tryz.func112, Tryz.ntmps112
    go_wp2_with (fail)
    refine H.mono ?_
    rintro e w1 ⟨rfl, hb1⟩
    go_wp2_with (fail)
    go_ret
    exact ⟨ret_bool (by first | exact hd | simp), hb1⟩
  · have hd : decide (b < 0) = true := hc.out.symm
    go_enter Tryz.func112, Tryz.ntmps112
    go_wp2_with (fail)
    refine H.mono ?_
    rintro e w1 ⟨rfl, hb1⟩
    go_wp2_with (fail)
    go_ret
    exact ⟨ret_bool (by first | exact hd | simp), hb1⟩

theorem i32_ge (r k : Nat) : decide ((k : Int) ≤ (r : Int)) = decide (k ≤ r) := by
  by_cases h : k ≤ r
  · rw [decide_eq_true h, decide_eq_true (by omega)]
  · rw [decide_eq_false h, decide_eq_false (by omega)]
set_option maxHeartbeats 1000000 in
theorem okV1_calls (r : Nat) (w : World) :
    Calls Tryz.prog 115 #[.int .i32 (r : Int)] w fun e w' => e = .returned (.bool (okV1 r)) ∧ w = w' := by
  have hp : Hid (okV1 r = (decide (32 ≤ r) && decide (r ≠ 127))) := rfl
  have e127 : ((r : Int) == 127) = decide (r = 127) := i32_eq r 127
  by_cases h1 : 32 ≤ r
  · by_cases h2 : r = 127
    · rw [decide_eq_true h2] at e127
      have hf : Hid (okV1 r = false) := by show _ = _; rw [hp.out, decide_eq_false (p := r ≠ 127) (by omega), Bool.and_false]
      clear hp h2
      go_enter Tryz.func115, Tryz.ntmps115
      go_wp2
      go_ret
      exact ⟨ret_bool (by rw [hf.out, bne, e127]; rfl), rfl⟩
    · rw [decide_eq_false h2] at e127
      have hf : Hid (okV1 r = true) := by show _ = _; rw [hp.out, decide_eq_true (p := r ≠ 127) (by omega), decide_eq_true h1]; rfl
      clear hp h2
      go_enter Tryz.func115, Tryz.ntmps115
      go_wp2
      go_ret
      exact ⟨ret_bool (by rw [hf.out, bne, e127]; rfl), rfl⟩
  · have hf : Hid (okV1 r = false) := by show _ = _; rw [hp.out, decide_eq_false h1]; rfl
    have d1 : decide ((32 : Int) ≤ (r : Int)) = false := by rw [decide_eq_false_iff_not]; omega
    clear hp e127
    go_enter Tryz.func115, Tryz.ntmps115
    go_wp2
    go_ret
    exact ⟨ret_bool hf.out.symm, rfl⟩

set_option maxHeartbeats 2000000 in
set_option maxRecDepth 1000000 in
theorem allVal_calls (s : ByteArray) (w : World) (hs : s.size ≤ 1000000) :
    Calls Tryz.prog 113 #[.string s, .func (.func 115) #[] #[]] w fun e w' => e = .returned (.bool (allR okV1 (toL s))) ∧ Below w.heap.size w w' := by
  go_enter Tryz.func113, Tryz.ntmps113
  go_wp2
  go_loopw [] (fun wr => ∃ pos : Nat, wr.heap[w.heap.size]? = some (.stringIter s pos) ∧ Below w.heap.size w wr ∧ Hid (allR okV1 (toL s) = allR okV1 ((toL s).drop pos)) ∧ pos ≤ s.size) (fun wr => s.size - wr.iterPos w.heap.size)
  case atStart => exact ⟨0, by simpa using World.iter_heap w s 0, (Below.refl _ _).alloc (Nat.le_refl _) _, rfl, by omega⟩
  case round =>
    obtain ⟨pos, hit, hbw, hall, hps⟩ := hrel
    have hsz : w.heap.size < wr.heap.size := (Array.getElem?_eq_some_iff.1 hit).1
    by_cases hp : pos < s.size
    · have hnx : ∀ ty, (Instr.next (.pointer (some ⟨w.heap.size, 0, none⟩)) true ty).run Tryz.prog wr = _ := fun ty => Lib.run_next_any_at wr w.heap.size s pos ty hit hp
      have hne := drop_ne hp
      have hdp := dec_pos _ hne
      rw [List.length_drop, toL_size] at hdp
      rw [dec_at] at hnx
      rw [show s.data.toList = toL s from rfl] at hnx
      have hst : Hid (allR okV1 (toL s) = (okV1 (dec ((toL s).drop pos)).1 && allR okV1 ((toL s).drop (pos + (dec ((toL s).drop pos)).2)))) := by show _ = _; rw [hall.out, allR_step _ hne, List.drop_drop]
      clear hne hall
      generalize dec ((toL s).drop pos) = d at *
      obtain ⟨r, n⟩ := d
      simp only at *
      have hit2 := Lib.iterAt_heap wr w.heap.size s pos (pos + n) hit
      have hbw2 := Lib.below_iterAt hbw (k := w.heap.size) (by omega) s (pos + n)
      have hip : wr.iterPos w.heap.size = pos := by simp only [World.iterPos, hit]
      clear hit
      generalize hwa : wr.iterAt w.heap.size s (pos + n) = wa at *
      have H := okV1_calls r wa
      generalize okV1 r = pr at *
      clear hwa
      cases pr
      · have hff : Hid (allR okV1 (toL s) = false) := by show _ = _; rw [hst.out]; rfl
        clear hst hip
        go_wp2_with (fail)
        refine H.mono ?_
        rintro e W1 ⟨rfl, rfl⟩
        go_wp2
        go_ret
        exact ⟨ret_bool hff.out.symm, hbw2⟩
      · have hff : Hid (allR okV1 (toL s) = allR okV1 ((toL s).drop (pos + n))) := by show _ = _; rw [hst.out]; rfl
        clear hst
        go_wp2_with (fail)
        refine H.mono ?_
        rintro e W1 ⟨rfl, rfl⟩
        go_wp2
        go_roundw
        case rel => exact ⟨pos + n, hit2, hbw2, hff, by omega⟩
        case measure =>
          rw [hip]
          simp only [World.iterPos, hit2]
          omega
    · have hnx : ∀ ty, (Instr.next (.pointer (some ⟨w.heap.size, 0, none⟩)) true ty).run Tryz.prog wr = _ := fun ty => Lib.run_next_end_at wr w.heap.size s pos ty hit hp
      have hff : Hid (allR okV1 (toL s) = true) := by
        show _ = _
        rw [hall.out, List.drop_eq_nil_of_le (by rw [toL_size]; omega), allR_nil]
      clear hall
      go_wp2
      go_ret
      exact ⟨ret_bool hff.out.symm, hbw⟩
theorem isVal_eq (l : List UInt8) : isVal l = (decide (l.length ≤ 48) && (clean l && allR okV1 l)) := by
  unfold isVal
  cases h : clean l
  · rfl
  · rw [val_all l.length l (Nat.le_refl _) h]
set_option maxHeartbeats 1000000 in
set_option maxRecDepth 100000 in
theorem val_calls (s : ByteArray) (w : World) (hs : s.size ≤ 1000000) (hT : Lib.Utf8Tabs 0 1 w) :
    Calls Tryz.prog 86 #[.string s] w fun e w' => e = .returned (.bool (isVal (toL s))) ∧ Below w.heap.size w w' := by
  have hv : Hid (isVal (toL s) = (decide (s.size ≤ 48) && (clean (toL s) && allR okV1 (toL s)))) := by show _ = _; rw [isVal_eq, toL_size]
  have H1 := whole_calls s w hs hT
  have H2 := Lib.hid (fun w1 => allVal_calls s w1 hs)
  generalize clean (toL s) = c at *
  generalize allR okV1 (toL s) = a at *
  by_cases h48 : s.size ≤ 48
  · cases c
    · have hf : Hid (isVal (toL s) = false) := by show _ = _; rw [hv.out, Bool.false_and, Bool.and_false]
      clear hv
      go_enter Tryz.func86, Tryz.ntmps86
      go_wp2_with (fail)
      refine H1.mono ?_
      rintro e w1 ⟨rfl, hb1⟩
      go_wp2_with (fail)
      go_ret
      exact ⟨ret_bool hf.out.symm, hb1⟩
    · have hf : Hid (isVal (toL s) = a) := by show _ = _; rw [hv.out, decide_eq_true h48, Bool.true_and, Bool.true_and]
      clear hv
      go_enter Tryz.func86, Tryz.ntmps86
      go_wp2_with (fail)
      refine H1.mono ?_
      rintro e w1 ⟨rfl, hb1⟩
      go_wp2_with (fail)
      refine (H2.out _).mono ?_
      rintro e w2 ⟨rfl, hb2⟩
      go_wp2_with (fail)
      go_ret
      exact ⟨ret_bool hf.out.symm, hb1.trans (hb2.mono hb1.size)⟩
  · have hf : Hid (isVal (toL s) = false) := by show _ = _; rw [hv.out, decide_eq_false h48, Bool.false_and]
    clear hv
    go_enter Tryz.func86, Tryz.ntmps86
    go_wp2_with (fail)
    go_ret
    exact ⟨ret_bool hf.out.symm, Below.refl _ _⟩

set_option maxHeartbeats 1000000 in
set_option maxRecDepth 100000 in
theorem refBad_calls (s : ByteArray) (w : World) (hs : s.size ≤ 1000000) :
    Calls Tryz.prog 80 #[.string s] w fun e w' => e = .returned (.int .i64 (badI (toL s) 0)) ∧ w = w' := by
  have hsz := Lib.hid (toL_size s)
  go_enter Tryz.func80, Tryz.ntmps80
  go_wp2
  go_loop [3] (fun i => ∃ pos : Nat, i = .int .i64 (pos : Int) ∧ Hid (badI (toL s) 0 = badI ((toL s).drop pos) pos) ∧ pos ≤ s.size) (fun i => s.size - (intOf i).toNat)
  case atStart => exact ⟨0, rfl, rfl, by omega⟩
  case round =>
    obtain ⟨pos, rfl, hbad, hps⟩ := hrel
    by_cases hp : pos < s.size
    · have hne := drop_ne hp
      have hdp := dec_pos _ hne
      rw [List.length_drop, hsz.out] at hdp
      have H := size_calls s pos w hs hp
      rw [size5_ill _ hne] at H
      have hi0 : ill ((toL s).drop pos) = true → Hid (badI (toL s) 0 = pos) := fun h => by show _ = _; rw [hbad.out, badI_ill _ hne h]
      have hi1 : ill ((toL s).drop pos) = false → Hid (badI (toL s) 0 = badI ((toL s).drop (pos + (dec ((toL s).drop pos)).2)) (pos + (dec ((toL s).drop pos)).2)) := fun h => by show _ = _; rw [hbad.out, badI_step _ hne h, List.drop_drop]
      clear hne hbad
      generalize ill ((toL s).drop pos) = il at *
      generalize dec ((toL s).drop pos) = d at *
      obtain ⟨r, n⟩ := d
      simp only at *
      cases il
      · have hf := hi1 rfl
        have H : Calls Tryz.prog 78 #[.string s, .int .i64 (pos : Int)] w fun e w' => e = .returned (.tuple #[.int .i64 (n : Int), .int .i64 (r : Int)]) ∧ w = w' := H
        have n0 : ((n : Int) == 0) = false := beq_eq_false_iff_ne.2 (by omega)
        clear hi0 hi1
        go_wp2_with (fail)
        refine H.mono ?_
        rintro e W1 ⟨rfl, rfl⟩
        go_wp2
        go_round
        case rel => exact ⟨pos + n, by go_num, hf, by omega⟩
        case measure => simp [intOf]; omega
      · have hf := hi0 rfl
        have H : Calls Tryz.prog 78 #[.string s, .int .i64 (pos : Int)] w fun e w' => e = .returned (.tuple #[.int .i64 0, .int .i64 0]) ∧ w = w' := H
        clear hi0 hi1
        go_wp2_with (fail)
        refine H.mono ?_
        rintro e W1 ⟨rfl, rfl⟩
        go_wp2
        go_ret
        exact ⟨ret_int hf.out.symm, rfl⟩
    · have hf : Hid (badI (toL s) 0 = -1) := by
        show _ = _
        rw [hbad.out, List.drop_eq_nil_of_le (by rw [hsz.out]; omega), badI_nil]
      clear hbad
      go_wp2
      go_ret
      exact ⟨ret_int hf.out.symm, rfl⟩

set_option maxHeartbeats 2000000 in
set_option maxRecDepth 100000 in
theorem refVal_calls (s : ByteArray) (w : World) (hs : s.size ≤ 1000000) :
    Calls Tryz.prog 43 #[.string s] w fun e w' => e = .returned (.bool (isVal (toL s))) ∧ w = w' := by
  have hv : Hid (isVal (toL s) = (decide (s.size ≤ 48) && (clean (toL s) && (toL s).all fun c => okV1 c.toNat))) := by show _ = _; unfold isVal; rw [toL_size]
  have H1 := refBad_calls s w hs
  have hc : Hid (clean (toL s) = decide (badI (toL s) 0 < 0)) := rfl
  have hsz := Lib.hid (toL_size s)
  generalize badI (toL s) 0 = b at *
  by_cases h48 : s.size ≤ 48
  · by_cases hb : b < 0
    · have d1 : decide (0 ≤ b) = false := by rw [decide_eq_false_iff_not]; omega
      have hall : Hid (isVal (toL s) = (toL s).all fun c => okV1 c.toNat) := by show _ = _; rw [hv.out, hc.out, decide_eq_true hb, decide_eq_true h48, Bool.true_and, Bool.true_and]
      clear hv hc
      go_enter Tryz.func43, Tryz.ntmps43
      go_wp2_with (fail)
      refine H1.mono ?_
      rintro e w1 ⟨rfl, rfl⟩
      go_wp2_with (fail)
      clear d1 hb H1
      go_loop [3] (fun i => ∃ pos : Nat, i = .int .i64 (pos : Int) ∧ pos ≤ s.size ∧ Hid (isVal (toL s) = ((toL s).drop pos).all fun c => okV1 c.toNat)) (fun i => s.size - (intOf i).toNat)
      case atStart => exact ⟨0, rfl, by omega, hall⟩
      case round =>
        obtain ⟨pos, rfl, hps, hq⟩ := hrel
        clear hall
        by_cases hp : pos < s.size
        · obtain ⟨x, hat⟩ : ∃ x, ∀ h : pos < s.size, s[pos]'h = x := ⟨s[pos]'hp, fun _ => rfl⟩
          have hd := qend_at s pos hp x (hat hp)
          have hst : Hid (isVal (toL s) = (okV1 x.toNat && ((toL s).drop (pos + 1)).all fun c => okV1 c.toNat)) := by show _ = _; rw [hq.out, hd, List.all_cons]
          have e127 : ((x.toNat : Int) == 127) = decide (x = 127) := u8_eq x 127 (by omega)
          clear hd hq
          by_cases h32 : x.toNat < 32
          · have hf : Hid (isVal (toL s) = false) := by show _ = _; rw [hst.out]; unfold okV1; rw [decide_eq_false (p := 32 ≤ x.toNat) (by omega)]; rfl
            clear hst e127
            go_wp2
            go_ret
            exact ⟨ret_bool hf.out.symm, rfl⟩
          · have d1 : decide ((x.toNat : Int) < 32) = false := by rw [decide_eq_false_iff_not]; omega
            by_cases h127 : x = 127
            · have hf : Hid (isVal (toL s) = false) := by show _ = _; rw [hst.out, h127]; rfl
              rw [decide_eq_true h127] at e127
              clear hst h127
              go_wp2
              go_ret
              exact ⟨ret_bool hf.out.symm, rfl⟩
            · have hne : x.toNat ≠ 127 := fun e => h127 (UInt8.toNat_inj.1 e)
              have hf : Hid (isVal (toL s) = ((toL s).drop (pos + 1)).all fun c => okV1 c.toNat) := by show _ = _; rw [hst.out]; unfold okV1; rw [decide_eq_true (p := 32 ≤ x.toNat) (by omega), decide_eq_true hne]; rfl
              rw [decide_eq_false h127] at e127
              clear hst h127 hne
              go_wp2
              go_round
              case rel => exact ⟨pos + 1, by go_num, by omega, hf⟩
              case measure => simp [intOf]; omega
        · have hf : Hid (isVal (toL s) = true) := by show _ = _; rw [hq.out, List.drop_eq_nil_of_le (by rw [hsz.out]; omega)]; rfl
          clear hq
          go_wp2
          go_ret
          exact ⟨ret_bool hf.out.symm, rfl⟩
    · have d1 : decide (0 ≤ b) = true := by rw [decide_eq_true_eq]; omega
      have hf : Hid (isVal (toL s) = false) := by show _ = _; rw [hv.out, hc.out, decide_eq_false hb, Bool.false_and, Bool.and_false]
      clear hv hc hb
      go_enter Tryz.func43, Tryz.ntmps43
      go_wp2_with (fail)
      refine H1.mono ?_
      rintro e w1 ⟨rfl, rfl⟩
      go_wp2_with (fail)
      go_ret
      exact ⟨ret_bool hf.out.symm, rfl⟩
  · have hf : Hid (isVal (toL s) = false) := by show _ = _; rw [hv.out, decide_eq_false h48, Bool.false_and]
    clear hv hc
    go_enter Tryz.func43, Tryz.ntmps43
    go_wp2_with (fail)
    go_ret
    exact ⟨ret_bool hf.out.symm, rfl⟩
end Go.Proofs.YtdgbpmbknlhgmaaGreatDoor
