/-
The walks through changeoverref01.Bytes, changeoverref01.Same, changeoverref04.Text, changeoverref04.Flag.
-/
import Derived.Test.YtdgbpmbknlhgmaaDoorPack
set_option linter.unusedVariables false
set_option linter.unusedSimpArgs false
namespace Go.Proofs.YtdgbpmbknlhgmaaDoor
open Go.RowKit Qt Vm

theorem snoc_big (l : List UInt8) (a : Nat) : Lib.byteCells l ++ [Value.int .u8 (128 + (a : Int) % 128)] = Lib.byteCells (l ++ [UInt8.ofNat (128 + a % 128)]) := by
  rw [byteCells_snoc1, UInt8.toNat_ofNat', Nat.mod_eq_of_lt (by omega)]
  congr 3
set_option maxHeartbeats 2000000 in
set_option maxRecDepth 100000 in
theorem refBytes_calls (m : Nat) (w : World) (hm : m < 9223372036854775808) :
    Calls Tryd.prog 57 #[.int .i64 (m : Int)] w fun e w' => ∃ B k d, e = .returned (.slice B k d) ∧ w'.ownsRow w.heap.size 5 1 (.slice B k d) k (Lib.byteCells (vb m)) ∧ Below w.heap.size w w' := by
  obtain ⟨i0, hi, hz0, hz1, hz2⟩ := info_parts bByte
  have h0 : decide ((m : Int) < 0) = false := by rw [decide_eq_false_iff_not]; omega
  go_enter Tryd.func57, Tryd.ntmps57
  go_wp2_with (fail)
  clear h0
  go_loopw [3, 0] (fun o i wr => ∃ (B : Option Addr) (k d : Nat) (acc : List UInt8) (q : Nat), o = .slice B k d ∧ i = .int .i64 (q : Int) ∧ q ≤ m ∧ k + (vb q).length ≤ (vb m).length ∧ Hid (wr.ownsRow w.heap.size 5 1 (.slice B k d) k (Lib.byteCells acc)) ∧ Hid (acc ++ vb q = vb m) ∧ Hid (Below w.heap.size w wr)) (fun _ i _ => (intOf i).toNat)
  case atStart => exact ⟨none, 0, 0, [], m, rfl, rfl, Nat.le_refl _, by omega, World.ownsRow_nil _ _ _ _, rfl, Below.refl _ _⟩
  case round =>
    have hv9 := vb_len9 hm
    obtain ⟨B, k, d, acc, q, rfl, rfl, hqm, hkl, hown, hacc, hbw⟩ := hrel
    have hwz : w.heap.size ≤ wr.heap.size := hbw.out.size
    have hvp := vb_pos q
    have own1 := hown.out
    by_cases hq : q < 128
    · have hres : Hid (acc ++ [UInt8.ofNat q] = vb m) := by show _ = _; rw [← hacc.out, vb_small hq]
      go_wp2_with (at_builtin; refine wpList_append_own _ rfl _ _ 36 rfl w.heap.size 5 i0 (.int .u8 0) 1 1 Tryd.underlying36 hi hz0 hz1 hz2 rfl (by decide) _ _ _ rfl (own1.alloc _) ⟨wr.heap.size, 0, none⟩ 1 1 [.int .u8 (q : Int)] rfl rfl (new_cell _ _ _) (one_int _) (by unfold maxLen; omega) (by omega) (by simp; omega) ?_)
      intro v' w2 hown' hgrow _
      rw [snoc_small _ _ hq] at hown'
      have hb2 : Below w.heap.size w w2 := ((hbw.out).alloc (by omega) _).grown hgrow (by simp; omega) (fun k hk => (own1.lt k hk).1)
      obtain ⟨A', c', rfl⟩ := own_form hown'
      have hown2 := Lib.hid hown'
      clear hown' hgrow
      go_wp2
      go_ret
      exact ⟨A', _, c', rfl, by rw [← hres.out]; exact hown2.out, hb2⟩
    · have hres : Hid ((acc ++ [UInt8.ofNat (128 + q % 128)]) ++ vb (q / 128) = vb m) := by
        show _ = _; rw [← hacc.out, vb_step hq]; simp
      have hl3 : k + 1 + (vb (q / 128)).length ≤ (vb m).length := by
        have hl2 : (vb q).length = (vb (q / 128)).length + 1 := by rw [vb_step hq]; rfl
        omega
      go_wp2_with (at_builtin; refine wpList_append_own _ rfl _ _ 36 rfl w.heap.size 5 i0 (.int .u8 0) 1 1 Tryd.underlying36 hi hz0 hz1 hz2 rfl (by decide) _ _ _ rfl (own1.alloc _) ⟨wr.heap.size, 0, none⟩ 1 1 [.int .u8 (128 + (q : Int) % 128)] rfl rfl (new_cell _ _ _) (one_int _) (by unfold maxLen; omega) (by omega) (by simp; omega) ?_)
      intro v' w2 hown' hgrow _
      rw [snoc_big] at hown'
      have hb2 : Below w.heap.size w w2 := ((hbw.out).alloc (by omega) _).grown hgrow (by simp; omega) (fun k hk => (own1.lt k hk).1)
      obtain ⟨A', c', rfl⟩ := own_form hown'
      have hown2 := Lib.hid hown'
      clear hown' hgrow
      go_wp2
      go_roundw
      case rel => exact ⟨A', k + 1, c', acc ++ [UInt8.ofNat (128 + q % 128)], q / 128, rfl, by go_num, by omega, hl3, hown2, hres, hb2⟩
      case measure => simp [intOf]; omega

theorem take_next8 (ws : List UInt8) (k : Nat) (h : k < ws.length) : ws.take (k + 1) = ws.take k ++ [ws.getD k 0] := by
  rw [List.take_add_one, List.getElem?_eq_getElem h, Option.toList_some, List.getD_eq_getElem?_getD, List.getElem?_eq_getElem h, Option.getD_some]
set_option maxHeartbeats 2000000 in
theorem same_calls (A : Option Addr) (n c : Nat) (xs : List UInt8) (B : Option Addr) (m d : Nat) (ys : List UInt8) (w : World) (hn : n ≤ 1000000) (hm : m ≤ 1000000) (h1 : BAt w A n xs) (h2 : BAt w B m ys) :
    Calls Tryd.prog 24 #[.slice A n c, .slice B m d] w fun e w' => e = .returned (.bool (decide (xs = ys))) ∧ Below w.heap.size w w' := by
  have l1 := h1.len
  have l2 := h2.len
  by_cases hnm : n = m
  · subst hnm
    have H1 := Lib.hid h1
    have H2 := Lib.hid h2
    clear h1 h2
    go_enter Tryd.func24, Tryd.ntmps24
    go_wp2
    go_loopw [5] (fun i wr => ∃ k : Nat, k ≤ n ∧ i = .int .i64 (k : Int) ∧ Hid (xs.take k = ys.take k) ∧ Hid (Below w.heap.size w wr)) (fun i _ => n - (intOf i).toNat)
    case atStart => exact ⟨0, by omega, rfl, rfl, Below.refl _ _⟩
    case round =>
      obtain ⟨k, hk, rfl, hq, hb⟩ := hrel
      by_cases hlt : k < n
      · obtain ⟨b1, o1, rfl, hb1, hc1⟩ := (H1.out.below hb.out).at_ (by omega)
        obtain ⟨b2, o2, rfl, hb2, hc2⟩ := (H2.out.below hb.out).at_ (by omega)
        have g1 := hc1 k hlt
        have g2 := hc2 k hlt
        have t1 := Lib.hid (take_next8 xs k (by omega))
        have t2 := Lib.hid (take_next8 ys k (by omega))
        have hne : Hid (xs.getD k 0 ≠ ys.getD k 0 → xs ≠ ys) := by
          show _ → _
          intro h e; exact h (by rw [e])
        clear hc1 hc2
        generalize xs.getD k 0 = x at *
        generalize ys.getD k 0 = y at *
        by_cases he : x = y
        · subst he
          go_wp2
          go_quiet (fail)
          go_wp2
          go_roundw
          case rel => exact ⟨k + 1, by omega, by go_num, (by show _ = _; rw [t1.out, t2.out, hq.out]), below_drewN hb.out _⟩
          case measure => simp [intOf]; omega
        · have hs : ((x.toNat : Int) == (y.toNat : Int)) = false := by
            rw [beq_eq_false_iff_ne]; intro e; exact he (UInt8.toNat_inj.1 (by omega))
          have hf := Lib.hid (hne.out he)
          clear he hne
          go_wp2
          go_quiet (fail)
          go_wp2
          go_ret
          exact ⟨ret_bool (decide_eq_false hf.out).symm, below_drewN hb.out _⟩
      · have hf : Hid (xs = ys) := by
          have := hq.out
          rw [List.take_of_length_le (by omega), List.take_of_length_le (by omega)] at this
          exact this
        go_wp2
        go_ret
        exact ⟨ret_bool (decide_eq_true hf.out).symm, hb.out⟩
  · have hf : Hid (xs ≠ ys) := by
      show _ ≠ _
      intro e; apply hnm; rw [← l1, ← l2, e]
    have t : ((n : Int) == (m : Int)) = false := by rw [beq_eq_false_iff_ne]; omega
    go_enter Tryd.func24, Tryd.ntmps24
    go_wp2
    go_ret
    exact ⟨ret_bool (decide_eq_false hf.out).symm, Below.refl _ _⟩

set_option maxHeartbeats 1000000 in
set_option maxRecDepth 100000 in
theorem refText_calls (s : ByteArray) (w : World) (hs : s.size ≤ 1000000) :
    Calls Tryd.prog 59 #[.string s] w fun e w' => ∃ B k d, e = .returned (.slice B k d) ∧ w'.ownsRow w.heap.size 5 1 (.slice B k d) k (Lib.byteCells ((Fv.txt (toL s)).bytes)) ∧ Below w.heap.size w w' := by
  obtain ⟨i0, hi, hz0, hz1, hz2⟩ := info_parts bByte
  have H := Lib.hid (refBytes_calls s.size w (by omega))
  have hv9 := vb_len9 (n := s.size) (by omega)
  go_enter Tryd.func59, Tryd.ntmps59
  go_wp2_with (fail)
  refine H.out.mono ?_
  rintro e w1 ⟨B, k, d, rfl, hown, hb1⟩
  have hk : k = (vb s.size).length := by have := hown.1; rw [Lib.byteCells_length] at this; omega
  have hk9 : k ≤ 9 := by omega
  have hb1' := Lib.hid hb1
  clear hk H hb1
  go_wp2_with (at_builtin; refine Lib.wpList_append_own_string _ rfl _ _ 36 9 rfl w.heap.size 5 i0 Tryd.underlying36 Tryd.underlying9 hi hz0 hz1 hz2 _ _ _ rfl hown s rfl (by unfold maxLen; omega) (by omega) hb1'.out.size ?_)
  intro v' w2 hown' hgrow _
  have hb2 : Below w.heap.size w w2 := hb1'.out.grown hgrow hb1'.out.size (fun k hk => (hown.lt k hk).1)
  obtain ⟨A', c', rfl⟩ := own_form hown'
  have hown2 : Hid (w2.ownsRow w.heap.size 5 1 (.slice A' (k + s.size) c') (k + s.size) (Lib.byteCells ((Fv.txt (toL s)).bytes))) := by
    show World.ownsRow _ _ _ _ _ _ _
    have e : Lib.byteCells ((Fv.txt (toL s)).bytes) = Lib.byteCells (vb s.size) ++ Lib.strCells s := by
      show Lib.byteCells (vb (toL s).length ++ toL s) = _
      rw [toL_size, Lib.byteCells_append]; rfl
    rw [e]; exact hown'
  clear hown' hgrow hown
  go_wp2
  go_ret
  exact ⟨A', _, c', rfl, hown2.out, hb2⟩

set_option maxHeartbeats 1000000 in
set_option maxRecDepth 100000 in
theorem refFlag_calls (b : Bool) (w : World) :
    Calls Tryd.prog 58 #[.bool b] w fun e w' => ∃ B k d, e = .returned (.slice B k d) ∧ w'.ownsRow w.heap.size 5 1 (.slice B k d) k (Lib.byteCells ((Fv.flag b).bytes)) ∧ Below w.heap.size w w' := by
  cases b
  all_goals
    go_enter Tryd.func58, Tryd.ntmps58
    go_wp2
    go_ret
    exact ⟨_, _, _, rfl, ⟨rfl, .inr ⟨w.heap.size, 1, _, rfl, Nat.le_refl _, heap_alloc_new w _, Nat.le_refl _, by decide, rfl, rfl⟩⟩, (Below.refl _ _).alloc (Nat.le_refl _) _⟩
end Go.Proofs.YtdgbpmbknlhgmaaDoor
