/-
The walks through quote.quoted, changeoverref06.Word.
-/
import Derived.Test.YtdgbpmbknlhgmaaDoorUnqD
import Derived.Test.YtdgbpmbknlhgmaaDoorWordsMath
import Derived.Lib.IndexMore
set_option linter.unusedVariables false
set_option linter.unusedSimpArgs false
namespace Go.Proofs.YtdgbpmbknlhgmaaDoor
open Go.RowKit Qt

theorem index_head (l : List UInt8) : (Lib.index l [32] = -1 ∧ head l = l) ∨ (∃ n : Nat, Lib.index l [32] = n ∧ head l = l.take n) := by
  induction l with
  | nil => exact .inl ⟨rfl, rfl⟩
  | cons a l ih =>
    unfold head at ih ⊢
    by_cases ha : a = 32
    · subst ha
      exact .inr ⟨0, rfl, rfl⟩
    · have h1 : (a != 32) = true := by simpa using ha
      have h2 : ([32] : List UInt8).isPrefixOf (a :: l) = false := by
        simp [List.isPrefixOf]; exact fun e => ha e.symm
      have h3 : Lib.index (a :: l) [32] = if Lib.index l [32] == -1 then -1 else Lib.index l [32] + 1 := by
        rw [Lib.index, if_neg (by rw [h2]; exact Bool.false_ne_true)]
      rcases ih with ⟨i1, i2⟩ | ⟨n, i1, i2⟩
      · refine .inl ⟨by rw [h3, i1]; rfl, ?_⟩
        rw [List.takeWhile_cons, if_pos h1, i2]
      · refine .inr ⟨n + 1, ?_, ?_⟩
        · rw [h3, i1, if_neg (by simp)]; rfl
        · rw [List.takeWhile_cons, if_pos h1, i2]; rfl
theorem cut_head (l : List UInt8) : (Lib.cut l [32]).1 = head l := by
  unfold Lib.cut
  rcases index_head l with ⟨h1, h2⟩ | ⟨n, h1, h2⟩
  · rw [h1, if_neg (by decide), h2]
  · rw [h1, if_pos (by omega), h2]; rfl

theorem qend_at (s : ByteArray) (i : Nat) (h : i < s.size) (x : UInt8) (hx : s[i]'h = x) : (toL s).drop i = x :: (toL s).drop (i + 1) := by
  have hl : i < (toL s).length := by rw [toL_size]; exact h
  rw [List.drop_eq_getElem_cons hl]
  congr 1
set_option maxHeartbeats 2000000 in
set_option maxRecDepth 100000 in
theorem quoted_calls (s : ByteArray) (w : World) (hs : s.size ≤ 1000000) :
    Calls Tryd.prog 88 #[.string s] w fun e w' => e = .returned (.int .i64 (quotedN (toL s) : Int)) ∧ w = w' := by
  go_enter Tryd.func88, Tryd.ntmps88
  go_wp2
  go_loop [3] (fun i => ∃ k : Nat, i = .int .i64 (k : Int) ∧ 1 ≤ k ∧ k ≤ s.size + 1 ∧ Hid (qend ((toL s).drop 1) = (qend ((toL s).drop k)).map (· + (k - 1)))) (fun i => s.size + 1 - (intOf i).toNat)
  case atStart =>
    refine ⟨1, rfl, by omega, by omega, ?_⟩
    show _ = _
    cases qend ((toL s).drop 1) <;> rfl
  case round =>
    obtain ⟨k, rfl, h1, h2, hq⟩ := hrel
    by_cases hk : k < s.size
    · obtain ⟨x, hat⟩ : ∃ x, ∀ h : k < s.size, s[k]'h = x := ⟨s[k]'hk, fun _ => rfl⟩
      have hc := qend_at s k hk x (hat hk)
      have e92 : ((x.toNat : Int) == 92) = decide (x = 92) := u8_eq x 92 (by omega)
      have e34 : ((x.toNat : Int) == 34) = decide (x = 34) := u8_eq x 34 (by omega)
      by_cases h92 : x = 92
      · rw [decide_eq_true h92] at e92
        have hn : Hid (qend ((toL s).drop 1) = (qend ((toL s).drop (k + 2))).map (· + (k + 2 - 1))) := by
          show _ = _
          rw [hq.out, hc, h92]
          by_cases hk1 : k + 1 < s.size
          · rw [qend_at s (k + 1) hk1 _ rfl, qend_esc]
            cases qend ((toL s).drop (k + 1 + 1)) <;> simp
            omega
          · rw [List.drop_eq_nil_of_le (by rw [toL_size]; omega), List.drop_eq_nil_of_le (by rw [toL_size]; omega), qend_esc0, qend_nil]; rfl
        clear hc hq h92 e34
        go_wp2
        go_round
        case rel => exact ⟨k + 2, by go_num, by omega, by omega, hn⟩
        case measure => simp [intOf]; omega
      · rw [decide_eq_false h92] at e92
        by_cases h34 : x = 34
        · rw [decide_eq_true h34] at e34
          have hf : Hid (quotedN (toL s) = k + 1) := by
            show _ = _
            unfold quotedN
            rw [hq.out, hc, h34, qend_q]
            simp; omega
          clear hc hq h92 h34
          go_wp2
          go_ret
          exact ⟨ret_int (by rw [hf.out]; go_num), rfl⟩
        · rw [decide_eq_false h34] at e34
          have hn : Hid (qend ((toL s).drop 1) = (qend ((toL s).drop (k + 1))).map (· + (k + 1 - 1))) := by
            show _ = _
            rw [hq.out, hc, qend_plain _ _ h34 h92]
            cases qend ((toL s).drop (k + 1)) <;> simp
            omega
          clear hc hq h92 h34
          go_wp2
          go_round
          case rel => exact ⟨k + 1, by go_num, by omega, by omega, hn⟩
          case measure => simp [intOf]; omega
    · have hf : Hid (quotedN (toL s) = 0) := by
        show _ = _
        unfold quotedN
        rw [hq.out, List.drop_eq_nil_of_le (by rw [toL_size]; omega), qend_nil]; rfl
      go_wp2
      go_ret
      exact ⟨ret_int (by rw [hf.out]; rfl), rfl⟩

set_option maxHeartbeats 2000000 in
set_option maxRecDepth 100000 in
theorem refWord_calls (s : ByteArray) (w : World) (hs : s.size ≤ 1000000) :
    Calls Tryd.prog 18 #[.string s] w fun e w' => e = .returned (.bool (isWord (toL s))) ∧ Below w.heap.size w w' := by
  have hem : s.toList = toL s := by rw [ByteArray.toList_eq]; rfl
  have hsz := toL_size s
  by_cases h0 : toL s = []
  · have hf : Hid (isWord (toL s) = false) := by show _ = _; rw [h0]; rfl
    have hem0 : s.toList.isEmpty = true := by rw [hem, h0]; rfl
    clear hem
    go_enter Tryd.func18, Tryd.ntmps18
    go_wp2
    go_ret
    exact ⟨ret_bool hf.out.symm, Below.refl _ _⟩
  have hem0 : s.toList.isEmpty = false := by rw [hem, List.isEmpty_eq_false_iff]; exact h0
  have hpos : 0 < s.size := by
    rw [← hsz]; exact List.length_pos_iff.2 h0
  obtain ⟨x, hat⟩ : ∃ x, ∀ h : 0 < s.size, s[0]'h = x := ⟨s[0]'hpos, fun _ => rfl⟩
  have hx : b0 (toL s) = x := by
    have := at_drop s 0 0 hpos
    rw [List.drop_zero] at this
    rw [← hat hpos]; exact this.symm
  have e34 : ((x.toNat : Int) == 34) = decide (x = 34) := u8_eq x 34 (by omega)
  by_cases h34 : x = 34
  · have hf : Hid (isWord (toL s) = (unquote (toL s)).isSome) := by
      show _ = _; unfold isWord; rw [if_neg h0, if_pos (by rw [hx, h34])]
    rw [decide_eq_true h34] at e34
    clear hem h0 hx h34
    have H := refUnquote_calls s w hs
    go_enter Tryd.func18, Tryd.ntmps18
    go_wp2_with (fail)
    refine H.mono ?_
    rintro e w1 ⟨t, rfl, -, hb1⟩
    go_wp2
    go_ret
    exact ⟨ret_bool hf.out.symm, hb1⟩
  have hf : Hid (isWord (toL s) = (toL s).all fun c => decide (32 < c.toNat)) := by
    show _ = _; unfold isWord; rw [if_neg h0, if_neg (by rw [hx]; exact h34)]
  rw [decide_eq_false h34] at e34
  clear hem h0 hx h34
  go_enter Tryd.func18, Tryd.ntmps18
  go_wp2
  go_loop [5] (fun i => ∃ k : Nat, i = .int .i64 (k : Int) ∧ k ≤ s.size ∧ Hid (isWord (toL s) = ((toL s).drop k).all fun c => decide (32 < c.toNat))) (fun i => s.size - (intOf i).toNat)
  case atStart => exact ⟨0, rfl, by omega, hf⟩
  case round =>
    obtain ⟨k, rfl, hk, hq⟩ := hrel
    clear hf hat e34
    by_cases hlt : k < s.size
    · obtain ⟨y, hat⟩ : ∃ x, ∀ h : k < s.size, s[k]'h = x := ⟨s[k]'hlt, fun _ => rfl⟩
      have hc := qend_at s k hlt y (hat hlt)
      by_cases hy : y.toNat ≤ 32
      · have hf : Hid (isWord (toL s) = false) := by
          show _ = _
          rw [hq.out, hc, List.all_cons, decide_eq_false (by omega)]; rfl
        clear hq hc
        go_wp2
        go_ret
        exact ⟨ret_bool hf.out.symm, Below.refl _ _⟩
      · have hf : Hid (isWord (toL s) = ((toL s).drop (k + 1)).all fun c => decide (32 < c.toNat)) := by
          show _ = _
          rw [hq.out, hc, List.all_cons, decide_eq_true (by omega)]; rfl
        clear hq hc
        go_wp2
        go_round
        case rel => exact ⟨k + 1, by go_num, by omega, hf⟩
        case measure => simp [intOf]; omega
    · have hf : Hid (isWord (toL s) = true) := by
        show _ = _
        rw [hq.out, List.drop_eq_nil_of_le (by omega)]; rfl
      go_wp2
      go_ret
      exact ⟨ret_bool hf.out.symm, Below.refl _ _⟩
end Go.Proofs.YtdgbpmbknlhgmaaDoor
