/-
The walk through varint.Get.
-/
import Derived.Test.YtdgbpmbknlhgmaaDoorPackC
import Derived.WalkMore
import Derived.Deep.LoopGhost
set_option linter.unusedVariables false
set_option linter.unusedSimpArgs false
namespace Go.Proofs.YtdgbpmbknlhgmaaDoor
open Go.RowKit Qt Vm

theorem vgo_nil (i acc : Nat) : vgo [] i acc = none := rfl
theorem vgo_bad (c : UInt8) (t : List UInt8) (i acc : Nat) (h : (0 < i ∧ c = 0) ∨ 8 < i) : vgo (c :: t) i acc = none := by rw [vgo, if_pos h]
theorem vgo_end (c : UInt8) (t : List UInt8) (i acc : Nat) (h : ¬ ((0 < i ∧ c = 0) ∨ 8 < i)) (hc : c.toNat < 128) : vgo (c :: t) i acc = some (acc + c.toNat % 128 * 128 ^ i, i + 1) := by rw [vgo, if_neg h, if_pos hc]
theorem vgo_more (c : UInt8) (t : List UInt8) (i acc : Nat) (h : ¬ ((0 < i ∧ c = 0) ∨ 8 < i)) (hc : ¬ c.toNat < 128) : vgo (c :: t) i acc = vgo t (i + 1) (acc + c.toNat % 128 * 128 ^ i) := by rw [vgo, if_neg h, if_neg hc]
theorem drop_at (l : List UInt8) (k : Nat) (h : k < l.length) : l.drop k = l.getD k 0 :: l.drop (k + 1) := by
  rw [List.drop_eq_getElem_cons h, List.getD_eq_getElem?_getD, List.getElem?_eq_getElem h]; rfl
theorem u8_and127 (c : UInt8) : bits .and .u8 (c.toNat : Int) 127 = ((c.toNat % 128 : Nat) : Int) := by
  have : ∀ x : Nat, x < 256 → bits .and .u8 (x : Int) 127 = ((x % 128 : Nat) : Int) := by decide +kernel
  exact this _ c.toNat_lt
theorem u64_or_nat (a b : Nat) (ha : a < 9223372036854775808) (hb : b < 9223372036854775808) : bits .or .u64 (a : Int) (b : Int) = ((a ||| b : Nat) : Int) := by
  have hx : a ||| b < 2 ^ 63 := Nat.or_lt_two_pow (by omega) (by omega)
  show IntKind.u64.wrap ((BitVec.ofInt 64 (a : Int) ||| BitVec.ofInt 64 (b : Int)).toNat : Int) = _
  rw [BitVec.toNat_or, ofInt_i64 a ha, ofInt_i64 b hb, IntKind.wrap_u64]
  omega
theorem pow128 (j : Nat) : (128 : Nat) ^ j = 2 ^ (7 * j) := by rw [Nat.pow_mul]
theorem or_step (acc x j : Nat) (hj : j ≤ 8) (ha : acc < 128 ^ j) : bits .or .u64 (acc : Int) (IntKind.u64.wrap ((x : Int) % 128 * 2 ^ (7 * j))) = ((acc + x % 128 * 128 ^ j : Nat) : Int) := by
  have hp : (128 : Nat) ^ j ≤ 128 ^ 8 := Nat.pow_le_pow_right (by omega) hj
  have h8 : (128 : Nat) ^ 8 = 72057594037927936 := by decide
  have hm : x % 128 < 128 := Nat.mod_lt _ (by omega)
  have hb : x % 128 * 128 ^ j ≤ 127 * 128 ^ j := Nat.mul_le_mul_right _ (by omega)
  have e1 : ((x : Int) % 128 * 2 ^ (7 * j)) = ((x % 128 * 128 ^ j : Nat) : Int) := by
    rw [pow128, Int.natCast_mul, Int.natCast_pow]; rfl
  rw [e1, IntKind.wrap_u64, show (((x % 128 * 128 ^ j : Nat) : Int) % 18446744073709551616) = ((x % 128 * 128 ^ j : Nat) : Int) by omega, u64_or_nat _ _ (by omega) (by omega)]
  congr 1
  rw [Nat.or_comm, Nat.mul_comm (x % 128), pow128, ← Nat.two_pow_add_eq_or_of_lt (by rw [← pow128]; exact ha), Nat.add_comm]
theorem or_step0 (acc x j : Nat) (hj : j = 0) (ha : acc < 128 ^ j) : bits .or .u64 (acc : Int) ((x : Int) % 128) = ((acc + x % 128 * 128 ^ j : Nat) : Int) := by
  subst hj
  have h := or_step acc x 0 (by omega) ha
  rw [show ((x : Int) % 128 * 2 ^ (7 * 0)) = (x : Int) % 128 by simp, IntKind.wrap_u64, show (x : Int) % 128 % 18446744073709551616 = (x : Int) % 128 by omega] at h
  exact h
/-- the error's number. -/
def vge : List UInt8 → Nat → Int
  | [], _ => 1
  | c :: t, i => if (0 < i ∧ c = 0) ∨ 8 < i then 3 else if c.toNat < 128 then 0 else vge t (i + 1)
theorem vge_nil (i : Nat) : vge [] i = 1 := rfl
theorem vge_bad (c : UInt8) (t : List UInt8) (i : Nat) (h : (0 < i ∧ c = 0) ∨ 8 < i) : vge (c :: t) i = 3 := by rw [vge, if_pos h]
theorem vge_more (c : UInt8) (t : List UInt8) (i : Nat) (h : ¬ ((0 < i ∧ c = 0) ∨ 8 < i)) (hc : ¬ c.toNat < 128) : vge (c :: t) i = vge t (i + 1) := by rw [vge, if_neg h, if_neg hc]
theorem vge_ne : ∀ (l : List UInt8) (i acc : Nat), vgo l i acc = none → vge l i ≠ 0 := by
  intro l
  induction l with
  | nil => intro i acc _; rw [vge_nil]; decide
  | cons c t ih =>
    intro i acc h
    by_cases hb : (0 < i ∧ c = 0) ∨ 8 < i
    · rw [vge_bad _ _ _ hb]; decide
    · by_cases hc : c.toNat < 128
      · rw [vgo_end _ _ _ _ hb hc] at h; cases h
      · rw [vge_more _ _ _ hb hc]
        rw [vgo_more _ _ _ _ hb hc] at h
        exact ih _ _ h
theorem ret_vg {a b : Int} (h : a = b) : Ending.returned (Value.tuple #[.int .i64 0, .int .i64 0, .int .i64 a]) = Ending.returned (Value.tuple #[.int .i64 0, .int .i64 0, .int .i64 b]) := by rw [h]
/-- what a call of Get comes to. -/
def GetsN (l : List UInt8) (p : Nat) (w : World) (e : Ending) (w' : World) : Prop :=
  (∃ v k, vget (l.drop p) = some (v, k) ∧ e = .returned (.tuple #[.int .i64 (v : Int), .int .i64 ((p + k : Nat) : Int), .int .i64 0]) ∧ w = w') ∨
  (vget (l.drop p) = none ∧ e = .returned (.tuple #[.int .i64 0, .int .i64 0, .int .i64 (vge (l.drop p) 0)]) ∧ w = w')

set_option maxHeartbeats 8000000 in
set_option maxRecDepth 100000 in
theorem vget_calls (A : Option Addr) (n c : Nat) (l : List UInt8) (p : Nat) (w : World) (hn : n ≤ 1000000) (hp : p ≤ n) (h : BAt w A n l) :
    Calls Tryd.prog 128 #[.slice A n c, .int .i64 (p : Int)] w (GetsN l p w) := by
  have hlen := h.len
  have H := Lib.hid h
  clear h
  have g1 : decide ((p : Int) < 0) = false := by rw [decide_eq_false_iff_not]; omega
  have g2 : decide ((n : Int) < (p : Int)) = false := by rw [decide_eq_false_iff_not]; omega
  go_enter Tryd.func128, Tryd.ntmps128
  go_wp2_with (fail)
  clear g1 g2
  go_step3
  go_wp2_with (fail)
  go_step3
  go_wp2_with (fail)
  go_loopg [7, 8] (n + 1) (fun gk x i wr => ∃ (j acc : Nat), n + 1 - (p + j) ≤ gk ∧ i = .int .i64 ((p + j : Nat) : Int) ∧ x = .int .u64 (acc : Int) ∧ p + j ≤ n ∧ j ≤ 9 ∧ acc < 128 ^ j ∧ Hid (vget (l.drop p) = vgo (l.drop (p + j)) j acc ∧ vge (l.drop p) 0 = vge (l.drop (p + j)) j) ∧ w = wr)
  case atStart => exact ⟨0, 0, by omega, rfl, rfl, by omega, by omega, by omega, ⟨rfl, rfl⟩, rfl⟩
  case round =>
    obtain ⟨j, acc, hgk, rfl, rfl, hpj, hj, hacc, hv, rfl⟩ := hrel
    by_cases hlt : p + j < n
    · obtain ⟨b, off, rfl, hb, hc⟩ := H.out.at_ (by omega)
      have hc1 := hc (p + j) hlt
      have hd := Lib.hid (drop_at l (p + j) (by omega))
      clear hc
      generalize l.getD (p + j) 0 = x at *
      have hx := x.toNat_lt
      have he0 : ((x.toNat : Int) == 0) = decide (x = 0) := u8_eq x 0 (by omega)
      by_cases hbad : (0 < j ∧ x = 0) ∨ 8 < j
      · have hno : Hid (vget (l.drop p) = none ∧ vge (l.drop p) 0 = 3) := by show _ ∧ _; rw [hv.out.1, hv.out.2, hd.out, vgo_bad _ _ _ _ hbad, vge_bad _ _ _ hbad]; exact ⟨rfl, rfl⟩
        clear hv hd hacc
        by_cases h8 : 8 < j
        · have hj9 : Hid (j = 9) := by show _ = _; omega
          by_cases h0 : x = 0
          · rw [decide_eq_true h0] at he0
            clear hbad h0
            go_wp2_with (fail)
            rw [Exit.noGoto_ret]
            go_ret3
            exact .inr ⟨hno.out.1, ret_vg hno.out.2.symm, rfl⟩
          · rw [decide_eq_false h0] at he0
            clear hbad h0
            go_wp2_with (fail)
            rw [Exit.noGoto_ret]
            go_ret3
            exact .inr ⟨hno.out.1, ret_vg hno.out.2.symm, rfl⟩
        · have h0 : 0 < j ∧ x = 0 := hbad.resolve_right h8
          rw [decide_eq_true h0.2] at he0
          have hj0 := h0.1
          clear hbad h0
          go_wp2_with (fail)
          rw [Exit.noGoto_ret]
          go_ret3
          exact .inr ⟨hno.out.1, ret_vg hno.out.2.symm, rfl⟩
      · have hj8 : j ≤ 8 := by omega
        have hp8 : (128 : Nat) ^ j ≤ 128 ^ 8 := Nat.pow_le_pow_right (by omega) hj8
        have h8e : (128 : Nat) ^ 8 = 72057594037927936 := by decide
        have hacc8 : acc < 72057594037927936 := by omega
        have ha := u8_and127 x
        have ho := or_step acc x.toNat j hj8 hacc
        have ho0 := fun h => or_step0 acc x.toNat j h hacc
        have hm : x.toNat % 128 < 128 := Nat.mod_lt _ (by omega)
        have hb2 : x.toNat % 128 * 128 ^ j ≤ 127 * 128 ^ j := Nat.mul_le_mul_right _ (by omega)
        have hnx : acc + x.toNat % 128 * 128 ^ j < 128 ^ (j + 1) := by rw [Nat.pow_succ]; omega
        have hn63 : acc + x.toNat % 128 * 128 ^ j < 9223372036854775808 := by omega
        have hj0 : x = 0 → j = 0 := fun h0 => by
          rcases Nat.eq_zero_or_pos j with h | h
          · exact h
          · exact absurd (.inl ⟨h, h0⟩) hbad
        have hd1 := Lib.hid (fun (hc : x.toNat < 128) => (hv.out.1.trans (by rw [hd.out]; exact vgo_end x (l.drop (p + j + 1)) j acc hbad hc) : vget (l.drop p) = some (acc + x.toNat % 128 * 128 ^ j, j + 1)))
        have hd2 := Lib.hid (fun (hc : ¬ x.toNat < 128) => ((⟨hv.out.1.trans (by rw [hd.out]; exact vgo_more x (l.drop (p + j + 1)) j acc hbad hc), hv.out.2.trans (by rw [hd.out]; exact vge_more x (l.drop (p + j + 1)) j hbad hc)⟩) : vget (l.drop p) = vgo (l.drop (p + j + 1)) (j + 1) (acc + x.toNat % 128 * 128 ^ j) ∧ vge (l.drop p) 0 = vge (l.drop (p + j + 1)) (j + 1)))
        clear hp8 h8e hb2 hv hd hbad hacc hm
        generalize acc + x.toNat % 128 * 128 ^ j = acc2 at *
        have hcase : (decide (x = 0) = true ∧ j = 0) ∨ decide (x = 0) = false := by
          by_cases h0 : x = 0
          · exact .inl ⟨decide_eq_true h0, hj0 h0⟩
          · exact .inr (decide_eq_false h0)
        clear hj0
        rcases hcase with ⟨h0, rfl⟩ | h0
        all_goals
          rw [h0] at he0
          clear h0
          try simp only [Nat.add_zero] at hc1
          try have ho1 := ho0 rfl
          clear ho0
          by_cases hc : x.toNat < 128
          · have hres := Lib.hid (hd1.out hc)
            clear hd1 hd2 hnx
            go_wp2_with (fail)
            rw [Exit.noGoto_ret]
            go_ret3
            exact .inl ⟨acc2, _, hres.out, rfl, rfl⟩
          · have hres := Lib.hid (hd2.out hc)
            have hnx' := Lib.hid hnx
            clear hd1 hd2 hnx
            go_wp2_with (fail)
            go_roundg (gk - 1)
            case measure => omega
            case rel => exact ⟨_, acc2, by omega, by go_num, rfl, by omega, by omega, hnx'.out, hres, rfl⟩
    · have hno : Hid (vget (l.drop p) = none ∧ vge (l.drop p) 0 = 1) := by show _ ∧ _; rw [hv.out.1, hv.out.2, List.drop_eq_nil_of_le (by omega), vgo_nil, vge_nil]; exact ⟨rfl, rfl⟩
      clear hv hacc
      go_wp2_with (fail)
      rw [Exit.noGoto_ret]
      go_ret3
      exact .inr ⟨hno.out.1, ret_vg hno.out.2.symm, rfl⟩
theorem vget_ok {A : Option Addr} {n c : Nat} {l : List UInt8} {p : Nat} {w : World} (hn : n ≤ 1000000) (hp : p ≤ n) (h : BAt w A n l) {v k : Nat} (hv : vget (l.drop p) = some (v, k)) :
    Calls Tryd.prog 128 #[.slice A n c, .int .i64 (p : Int)] w fun e w' => e = .returned (.tuple #[.int .i64 (v : Int), .int .i64 ((p + k : Nat) : Int), .int .i64 0]) ∧ w = w' :=
  (vget_calls A n c l p w hn hp h).mono fun e w' hq => by
    rcases hq with ⟨v', k', h1, h2, h3⟩ | ⟨h1, _⟩
    · rw [hv] at h1; cases h1; exact ⟨h2, h3⟩
    · rw [hv] at h1; cases h1
theorem vget_no {A : Option Addr} {n c : Nat} {l : List UInt8} {p : Nat} {w : World} (hn : n ≤ 1000000) (hp : p ≤ n) (h : BAt w A n l) (hv : vget (l.drop p) = none) :
    Calls Tryd.prog 128 #[.slice A n c, .int .i64 (p : Int)] w fun e w' => e = .returned (.tuple #[.int .i64 0, .int .i64 0, .int .i64 (vge (l.drop p) 0)]) ∧ w = w' :=
  (vget_calls A n c l p w hn hp h).mono fun e w' hq => by
    rcases hq with ⟨v', k', h1, h2, h3⟩ | ⟨h1, h2, h3⟩
    · rw [hv] at h1; cases h1
    · exact ⟨h2, h3⟩
end Go.Proofs.YtdgbpmbknlhgmaaDoor
