/-
The walk through changeoverref05.Size. (Its three alike cases were printed by a small program.)
-/
import Derived.Test.YtdgbpmbknlhgmaaGreatDoorQuoteA
import Derived.Test.YtdgbpmbknlhgmaaGreatDoorSizeMath
set_option linter.unusedVariables false
set_option linter.unusedSimpArgs false
namespace Go.Proofs.YtdgbpmbknlhgmaaGreatDoor
open Go.RowKit Qt

theorem at_drop (s : ByteArray) (i k : Nat) (h : i + k < s.size) : s[i + k]'h = ((toL s).drop i).getD k 0 := by
  have hh : i + k < s.data.toList.length := by rw [Array.length_toList]; exact h
  rw [List.getD_eq_getElem?_getD, List.getElem?_drop]
  show s.data[i + k] = _
  rw [show toL s = s.data.toList from rfl, List.getElem?_eq_getElem hh]
  rfl
theorem okV_bad {n low v : Nat} (h : v < low ∨ 1114111 < v ∨ (55296 ≤ v ∧ v ≤ 57343)) : okV n low v = (0, 0) := if_pos h
theorem okV_ok {n low v : Nat} (h : ¬ (v < low ∨ 1114111 < v ∨ (55296 ≤ v ∧ v ≤ 57343))) : okV n low v = (n, v) := if_neg h
theorem ret_two {a b c d : Int} (h1 : a = c) (h2 : b = d) : Ending.returned (Value.tuple #[.int .i64 a, .int .i64 b]) = Ending.returned (Value.tuple #[.int .i64 c, .int .i64 d]) := by rw [h1, h2]

set_option maxHeartbeats 4000000 in
set_option maxRecDepth 100000 in
theorem size_calls (s : ByteArray) (i : Nat) (w : World) (hs : s.size ≤ 1000000) (hi : i < s.size) :
    Calls Tryz.prog 78 #[.string s, .int .i64 (i : Int)] w fun e w' => e = .returned (.tuple #[.int .i64 ((size5 ((toL s).drop i)).1 : Int), .int .i64 ((size5 ((toL s).drop i)).2 : Int)]) ∧ w = w' := by
  go_enter Tryz.func78, Tryz.ntmps78
  have hat := at_drop s i
  have hat0 : ∀ h : i < s.size, s[i]'h = b0 ((toL s).drop i) := fun h => hat 0 h
  have hll : ((toL s).drop i).length = s.size - i := by rw [List.length_drop, toL_size]
  generalize (toL s).drop i = l at *
  have hb := (b0 l).toNat_lt
  have hz : Hid (size5 l = if (b0 l).toNat < 128 then (1, (b0 l).toNat)
    else if 194 ≤ (b0 l).toNat ∧ (b0 l).toNat ≤ 223 then multi l 2 128 ((b0 l).toNat - 192)
    else if 224 ≤ (b0 l).toNat ∧ (b0 l).toNat ≤ 239 then multi l 3 2048 ((b0 l).toNat - 224)
    else if 240 ≤ (b0 l).toNat ∧ (b0 l).toNat ≤ 244 then multi l 4 65536 ((b0 l).toNat - 240)
    else (0, 0)) := rfl
  generalize size5 l = q at *
  generalize hc : (b0 l).toNat = c at *
  by_cases h0 : c < 128
  · go_wp2
    go_ret2
    rw [hz.out, if_pos h0]
    exact ⟨rfl, rfl⟩
  have f0 : decide ((c : Int) < 128) = false := by rw [decide_eq_false_iff_not]; omega
  by_cases k2 : 194 ≤ c ∧ c ≤ 223
  · have hz' : Hid (q = multi l 2 128 (c - 192)) := by
      show _ = _
      rw [hz.out, if_neg h0, if_pos k2]
    clear hz
    by_cases hn : s.size < i + 2
    · have hq : q = (0, 0) := by rw [hz'.out, multi, if_pos (by omega)]
      go_wp2
      go_ret2
      rw [hq]
      exact ⟨rfl, rfl⟩
    have hz2 : Hid (q = okO 2 128 (contV l 1 1 (c - 192))) := by
      show _ = _
      rw [hz'.out, multi, if_neg (by omega)]
    clear hz'
    have g194 : decide ((194 : Int) ≤ c) = true := by rw [decide_eq_true_eq]; omega
    have l223 : decide ((c : Int) ≤ 223) = true := by rw [decide_eq_true_eq]; omega
    go_wp2
    go_loop [9, 10] (fun a b => ∃ v k : Nat, 1 ≤ k ∧ k ≤ 2 ∧ a = .int .i64 (v : Int) ∧ b = .int .i64 (k : Int) ∧ v ≤ 8388607 ∧ Hid ((k ≤ 1 → v ≤ 31) ∧ (k ≤ 2 → v ≤ 2047) ∧ (k ≤ 3 → v ≤ 131071) ∧ v ≤ 8388607) ∧ Hid (q = okO 2 128 (contV l (2 - k) k v))) (fun _ b => 2 - (intOf b).toNat)
    case atStart =>
      exact ⟨c - 192, 1, by omega, by omega, by go_num, rfl, by omega, (show _ ∧ _ by omega), hz2⟩
    case round =>
      obtain ⟨v, k, h1, h2, rfl, rfl, hv, hvv, hq⟩ := hrel
      by_cases hk : k < 2
      · have hg := hat k (by omega)
        have hdd := (l.getD k 0).toNat_lt
        have hst : Hid (q = okO 2 128 (if (l.getD k 0).toNat < 128 ∨ 191 < (l.getD k 0).toNat then none else contV l (2 - (k + 1)) (k + 1) (64 * v + (l.getD k 0).toNat - 128))) := by
          show _ = _
          rw [hq.out, show 2 - k = (2 - (k + 1)) + 1 by omega, contV_succ]
        clear hq hat hat0
        generalize l.getD k 0 = x at *
        generalize hd : x.toNat = d at *
        by_cases hbad : d < 128 ∨ 191 < d
        · have hq : q = (0, 0) := by rw [hst.out, if_pos hbad]; rfl
          go_wp2
          all_goals go_ret2
          all_goals first | exact ⟨rfl, rfl⟩ | (rw [hq]; exact ⟨rfl, rfl⟩)
        · have hst' : Hid (q = okO 2 128 (contV l (2 - (k + 1)) (k + 1) (64 * v + d - 128))) := by
            show _ = _
            rw [hst.out, if_neg hbad]
          clear hst
          go_wp2
          go_round
          case rel => exact ⟨64 * v + d - 128, k + 1, by omega, by omega, by go_num, by go_num, (by have := hvv.out; omega), (by have := hvv.out; show _ ∧ _; omega), hst'⟩
          case measure => simp [intOf]; omega
      · obtain rfl : k = 2 := by omega
        have hst : Hid (q = okV 2 128 v) := hq.out
        clear hq
        by_cases hbad : v < 128 ∨ 1114111 < v ∨ (55296 ≤ v ∧ v ≤ 57343)
        · have hq : q = (0, 0) := by rw [hst.out, okV_bad hbad]
          go_wp2
          all_goals go_ret2
          all_goals first | exact ⟨rfl, rfl⟩ | (rw [hq]; exact ⟨rfl, rfl⟩)
        · have hq : q = (2, v) := by rw [hst.out, okV_ok hbad]
          go_wp2
          all_goals go_ret2
          all_goals first | exact ⟨rfl, rfl⟩ | (rw [hq]; exact ⟨rfl, rfl⟩)
  by_cases k3 : 224 ≤ c ∧ c ≤ 239
  · have hz' : Hid (q = multi l 3 2048 (c - 224)) := by
      show _ = _
      rw [hz.out, if_neg h0, if_neg k2, if_pos k3]
    clear hz
    by_cases hn : s.size < i + 3
    · have hq : q = (0, 0) := by rw [hz'.out, multi, if_pos (by omega)]
      go_wp2
      go_ret2
      rw [hq]
      exact ⟨rfl, rfl⟩
    have hz2 : Hid (q = okO 3 2048 (contV l 2 1 (c - 224))) := by
      show _ = _
      rw [hz'.out, multi, if_neg (by omega)]
    clear hz'
    have g194 : decide ((194 : Int) ≤ c) = true := by rw [decide_eq_true_eq]; omega
    have l223 : decide ((c : Int) ≤ 223) = false := by rw [decide_eq_false_iff_not]; omega
    have g224 : decide ((224 : Int) ≤ c) = true := by rw [decide_eq_true_eq]; omega
    have l239 : decide ((c : Int) ≤ 239) = true := by rw [decide_eq_true_eq]; omega
    go_wp2
    go_loop [9, 10] (fun a b => ∃ v k : Nat, 1 ≤ k ∧ k ≤ 3 ∧ a = .int .i64 (v : Int) ∧ b = .int .i64 (k : Int) ∧ v ≤ 8388607 ∧ Hid ((k ≤ 1 → v ≤ 31) ∧ (k ≤ 2 → v ≤ 2047) ∧ (k ≤ 3 → v ≤ 131071) ∧ v ≤ 8388607) ∧ Hid (q = okO 3 2048 (contV l (3 - k) k v))) (fun _ b => 3 - (intOf b).toNat)
    case atStart =>
      exact ⟨c - 224, 1, by omega, by omega, by go_num, rfl, by omega, (show _ ∧ _ by omega), hz2⟩
    case round =>
      obtain ⟨v, k, h1, h2, rfl, rfl, hv, hvv, hq⟩ := hrel
      by_cases hk : k < 3
      · have hg := hat k (by omega)
        have hdd := (l.getD k 0).toNat_lt
        have hst : Hid (q = okO 3 2048 (if (l.getD k 0).toNat < 128 ∨ 191 < (l.getD k 0).toNat then none else contV l (3 - (k + 1)) (k + 1) (64 * v + (l.getD k 0).toNat - 128))) := by
          show _ = _
          rw [hq.out, show 3 - k = (3 - (k + 1)) + 1 by omega, contV_succ]
        clear hq hat hat0
        generalize l.getD k 0 = x at *
        generalize hd : x.toNat = d at *
        by_cases hbad : d < 128 ∨ 191 < d
        · have hq : q = (0, 0) := by rw [hst.out, if_pos hbad]; rfl
          go_wp2
          all_goals go_ret2
          all_goals first | exact ⟨rfl, rfl⟩ | (rw [hq]; exact ⟨rfl, rfl⟩)
        · have hst' : Hid (q = okO 3 2048 (contV l (3 - (k + 1)) (k + 1) (64 * v + d - 128))) := by
            show _ = _
            rw [hst.out, if_neg hbad]
          clear hst
          go_wp2
          go_round
          case rel => exact ⟨64 * v + d - 128, k + 1, by omega, by omega, by go_num, by go_num, (by have := hvv.out; omega), (by have := hvv.out; show _ ∧ _; omega), hst'⟩
          case measure => simp [intOf]; omega
      · obtain rfl : k = 3 := by omega
        have hst : Hid (q = okV 3 2048 v) := hq.out
        clear hq
        by_cases hbad : v < 2048 ∨ 1114111 < v ∨ (55296 ≤ v ∧ v ≤ 57343)
        · have hq : q = (0, 0) := by rw [hst.out, okV_bad hbad]
          go_wp2
          all_goals go_ret2
          all_goals first | exact ⟨rfl, rfl⟩ | (rw [hq]; exact ⟨rfl, rfl⟩)
        · have hq : q = (3, v) := by rw [hst.out, okV_ok hbad]
          go_wp2
          all_goals go_ret2
          all_goals first | exact ⟨rfl, rfl⟩ | (rw [hq]; exact ⟨rfl, rfl⟩)
  by_cases k4 : 240 ≤ c ∧ c ≤ 244
  · have hz' : Hid (q = multi l 4 65536 (c - 240)) := by
      show _ = _
      rw [hz.out, if_neg h0, if_neg k2, if_neg k3, if_pos k4]
    clear hz
    by_cases hn : s.size < i + 4
    · have hq : q = (0, 0) := by rw [hz'.out, multi, if_pos (by omega)]
      go_wp2
      go_ret2
      rw [hq]
      exact ⟨rfl, rfl⟩
    have hz2 : Hid (q = okO 4 65536 (contV l 3 1 (c - 240))) := by
      show _ = _
      rw [hz'.out, multi, if_neg (by omega)]
    clear hz'
    have g194 : decide ((194 : Int) ≤ c) = true := by rw [decide_eq_true_eq]; omega
    have l223 : decide ((c : Int) ≤ 223) = false := by rw [decide_eq_false_iff_not]; omega
    have g224 : decide ((224 : Int) ≤ c) = true := by rw [decide_eq_true_eq]; omega
    have l239 : decide ((c : Int) ≤ 239) = false := by rw [decide_eq_false_iff_not]; omega
    have g240 : decide ((240 : Int) ≤ c) = true := by rw [decide_eq_true_eq]; omega
    have l244 : decide ((c : Int) ≤ 244) = true := by rw [decide_eq_true_eq]; omega
    go_wp2
    go_loop [9, 10] (fun a b => ∃ v k : Nat, 1 ≤ k ∧ k ≤ 4 ∧ a = .int .i64 (v : Int) ∧ b = .int .i64 (k : Int) ∧ v ≤ 8388607 ∧ Hid ((k ≤ 1 → v ≤ 31) ∧ (k ≤ 2 → v ≤ 2047) ∧ (k ≤ 3 → v ≤ 131071) ∧ v ≤ 8388607) ∧ Hid (q = okO 4 65536 (contV l (4 - k) k v))) (fun _ b => 4 - (intOf b).toNat)
    case atStart =>
      exact ⟨c - 240, 1, by omega, by omega, by go_num, rfl, by omega, (show _ ∧ _ by omega), hz2⟩
    case round =>
      obtain ⟨v, k, h1, h2, rfl, rfl, hv, hvv, hq⟩ := hrel
      by_cases hk : k < 4
      · have hg := hat k (by omega)
        have hdd := (l.getD k 0).toNat_lt
        have hst : Hid (q = okO 4 65536 (if (l.getD k 0).toNat < 128 ∨ 191 < (l.getD k 0).toNat then none else contV l (4 - (k + 1)) (k + 1) (64 * v + (l.getD k 0).toNat - 128))) := by
          show _ = _
          rw [hq.out, show 4 - k = (4 - (k + 1)) + 1 by omega, contV_succ]
        clear hq hat hat0
        generalize l.getD k 0 = x at *
        generalize hd : x.toNat = d at *
        by_cases hbad : d < 128 ∨ 191 < d
        · have hq : q = (0, 0) := by rw [hst.out, if_pos hbad]; rfl
          go_wp2
          all_goals go_ret2
          all_goals first | exact ⟨rfl, rfl⟩ | (rw [hq]; exact ⟨rfl, rfl⟩)
        · have hst' : Hid (q = okO 4 65536 (contV l (4 - (k + 1)) (k + 1) (64 * v + d - 128))) := by
            show _ = _
            rw [hst.out, if_neg hbad]
          clear hst
          go_wp2
          go_round
          case rel => exact ⟨64 * v + d - 128, k + 1, by omega, by omega, by go_num, by go_num, (by have := hvv.out; omega), (by have := hvv.out; show _ ∧ _; omega), hst'⟩
          case measure => simp [intOf]; omega
      · obtain rfl : k = 4 := by omega
        have hst : Hid (q = okV 4 65536 v) := hq.out
        clear hq
        by_cases hbad : v < 65536 ∨ 1114111 < v ∨ (55296 ≤ v ∧ v ≤ 57343)
        · have hq : q = (0, 0) := by rw [hst.out, okV_bad hbad]
          go_wp2
          all_goals go_ret2
          all_goals first | exact ⟨rfl, rfl⟩ | (rw [hq]; exact ⟨rfl, rfl⟩)
        · have hq : q = (4, v) := by rw [hst.out, okV_ok hbad]
          go_wp2
          all_goals go_ret2
          all_goals first | exact ⟨rfl, rfl⟩ | (rw [hq]; exact ⟨rfl, rfl⟩)
  have hq : q = (0, 0) := by rw [hz.out, if_neg h0, if_neg k2, if_neg k3, if_neg k4]
  go_wp2
  all_goals go_ret2
  all_goals first | exact ⟨rfl, rfl⟩ | (rw [hq]; exact ⟨rfl, rfl⟩)
end Go.Proofs.YtdgbpmbknlhgmaaGreatDoor
