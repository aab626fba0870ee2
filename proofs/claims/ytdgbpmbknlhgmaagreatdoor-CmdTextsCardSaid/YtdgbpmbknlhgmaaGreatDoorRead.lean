/-
The walk through varint.Get.
The walks through pack.Reader: fail, left, limited, counted.
The walks through pack.Reader: counted, raw, flag.
-/
import Derived.Test.YtdgbpmbknlhgmaaGreatDoorPack
import Derived.WalkMore
import Derived.Deep.LoopGhost
set_option linter.unusedVariables false
set_option linter.unusedSimpArgs false
namespace Go.Proofs.YtdgbpmbknlhgmaaGreatDoor
open Go.RowKit Qt Vm

theorem vgo_nil (i acc : Nat) : vgo [] i acc = none := rfl
theorem vgo_bad (c : UInt8) (t : List UInt8) (i acc : Nat) (h : (0 < i ∧ c = 0) ∨ 8 < i) : vgo (c :: t) i acc = none := by rw [vgo, if_pos h]
theorem vgo_end (c : UInt8) (t : List UInt8) (i acc : Nat) (h : ¬ ((0 < i ∧ c = 0) ∨ 8 < i)) (hc : c.toNat < 128) : vgo (c :: t) i acc = some (acc + c.toNat % 128 * 128 ^ i, i + 1) := by rw [vgo, if_neg h, if_pos hc]
theorem vgo_more (c : UInt8) (t : List UInt8) (i acc : Nat) (h : ¬ ((0 < i ∧ c = 0) ∨ 8 < i)) (hc : ¬ c.toNat < 128) : vgo (c :: t) i acc = vgo t (i + 1) (acc + c.toNat % 128 * 128 ^ i) := by rw [vgo, if_neg h, if_neg hc]
theorem drop_at (l : List UInt8) (k : Nat) (h : k < l.length) : l.drop k = l.getD k 0 :: l.drop (k + 1) := by
  rw [List.drop_eq_getElem_cons h, List.getD_eq_getElem?_getD, List.getElem?_eq_getElem h]; rfl
theorem u8_and127 (c : UInt8) : bits .and .u8 (c.toNat : Int) 127 = ((c.toNat % 128 : Nat) : Int) := by
  have : ∀ x : Nat, x < 256 → bits .and .u8 (x : Int) 127 = ((x % 128 : Nat) : Int) := by decide +kernel
  exact this _ c.toNat_lt
theorem u64_or_nat (a b : Nat) (ha : a < 9223372036854775808) (hb : b < 9223372036854775808) : bits .or .u64 (a : Int) (b : Int) = ((a ||| b : Nat) : Int) := by
  have hx : a ||| b < 2 ^ 63 := Nat.or_lt_two_pow (by omega) (by omega)
  show IntKind.u64.wrap ((BitVec.ofInt 64 (a : Int) ||| BitVec.ofInt 64 (b : Int)).toNat : Int) = _
  rw [BitVec.toNat_or, ofInt_i64 a ha, ofInt_i64 b hb, IntKind.wrap_u64]
  omega
theorem pow128 (j : Nat) : (128 : Nat) ^ j = 2 ^ (7 * j) := by rw [Nat.pow_mul]
theorem or_step (acc x j : Nat) (hj : j ≤ 8) (ha : acc < 128 ^ j) : bits .or .u64 (acc : Int) (IntKind.u64.wrap ((x : Int) % 128 * 2 ^ (7 * j))) = ((acc + x % 128 * 128 ^ j : Nat) : Int) := by
  have hp : (128 : Nat) ^ j ≤ 128 ^ 8 := Nat.pow_le_pow_right (by omega) hj
  have h8 : (128 : Nat) ^ 8 = 72057594037927936 := by decide
  have hm : x % 128 < 128 := Nat.mod_lt _ (by omega)
  have hb : x % 128 * 128 ^ j ≤ 127 * 128 ^ j := Nat.mul_le_mul_right _ (by omega)
  have e1 : ((x : Int) % 128 * 2 ^ (7 * j)) = ((x % 128 * 128 ^ j : Nat) : Int) := by
    rw [pow128, Int.natCast_mul, Int.natCast_pow]; rfl
  rw [e1, IntKind.wrap_u64, show (((x % 128 * 128 ^ j : Nat) : Int) % 18446744073709551616) = ((x % 128 * 128 ^ j : Nat) : Int) by omega, u64_or_nat _ _ (by omega) (by omega)]
  congr 1
  rw [Nat.or_comm, Nat.mul_comm (x % 128), pow128, ← Nat.two_pow_add_eq_or_of_lt (by rw [← pow128]; exact ha), Nat.add_comm]
theorem or_step0 (acc x j : Nat) (hj : j = 0) (ha : acc < 128 ^ j) : bits .or .u64 (acc : Int) ((x : Int) % 128) = ((acc + x % 128 * 128 ^ j : Nat) : Int) := by
  subst hj
  have h := or_step acc x 0 (by omega) ha
  rw [show ((x : Int) % 128 * 2 ^ (7 * 0)) = (x : Int) % 128 by simp, IntKind.wrap_u64, show (x : Int) % 128 % 18446744073709551616 = (x : Int) % 128 by omega] at h
  exact h
/-- the error's number. -/
def vge : List UInt8 → Nat → Int
  | [], _ => 1
  | c :: t, i => if (0 < i ∧ c = 0) ∨ 8 < i then 3 else if c.toNat < 128 then 0 else vge t (i + 1)
theorem vge_nil (i : Nat) : vge [] i = 1 := rfl
theorem vge_bad (c : UInt8) (t : List UInt8) (i : Nat) (h : (0 < i ∧ c = 0) ∨ 8 < i) : vge (c :: t) i = 3 := by rw [vge, if_pos h]
theorem vge_more (c : UInt8) (t : List UInt8) (i : Nat) (h : ¬ ((0 < i ∧ c = 0) ∨ 8 < i)) (hc : ¬ c.toNat < 128) : vge (c :: t) i = vge t (i + 1) := by rw [vge, if_neg h, if_neg hc]
theorem vge_ne : ∀ (l : List UInt8) (i acc : Nat), vgo l i acc = none → vge l i ≠ 0 := by
  intro l
  induction l with
  | nil => intro i acc _; rw [vge_nil]; decide
  | cons c t ih =>
    intro i acc h
    by_cases hb : (0 < i ∧ c = 0) ∨ 8 < i
    · rw [vge_bad _ _ _ hb]; decide
    · by_cases hc : c.toNat < 128
      · rw [vgo_end _ _ _ _ hb hc] at h; cases h
      · rw [vge_more _ _ _ hb hc]
        rw [vgo_more _ _ _ _ hb hc] at h
        exact ih _ _ h
theorem ret_vg {a b : Int} (h : a = b) : Ending.returned (Value.tuple #[.int .i64 0, .int .i64 0, .int .i64 a]) = Ending.returned (Value.tuple #[.int .i64 0, .int .i64 0, .int .i64 b]) := by rw [h]
/-- what a call of Get comes to. -/
def GetsN (l : List UInt8) (p : Nat) (w : World) (e : Ending) (w' : World) : Prop :=
  (∃ v k, vget (l.drop p) = some (v, k) ∧ e = .returned (.tuple #[.int .i64 (v : Int), .int .i64 ((p + k : Nat) : Int), .int .i64 0]) ∧ w = w') ∨
  (vget (l.drop p) = none ∧ e = .returned (.tuple #[.int .i64 0, .int .i64 0, .int .i64 (vge (l.drop p) 0)]) ∧ w = w')

set_option maxHeartbeats 8000000 in
set_option maxRecDepth 100000 in
theorem vget_calls (A : Option Addr) (n c : Nat) (l : List UInt8) (p : Nat) (w : World) (hn : n ≤ 1000000) (hp : p ≤ n) (h : BAt w A n l) :
    Calls Tryz.prog 117 #[.slice A n c, .int .i64 (p : Int)] w (GetsN l p w) := by
  have hlen := h.len
  have H := Lib.hid h
  clear h
  have g1 : decide ((p : Int) < 0) = false := by rw [decide_eq_false_iff_not]; omega
  have g2 : decide ((n : Int) < (p : Int)) = false := by rw [decide_eq_false_iff_not]; omega
  go_enter Tryz.func117, Tryz.ntmps117
  go_wp2_with (fail)
  clear g1 g2
  go_step3
  go_wp2_with (fail)
  go_step3
  go_wp2_with (fail)
  go_loopg [7, 8] (n + 1) (fun gk x i wr => ∃ (j acc : Nat), n + 1 - (p + j) ≤ gk ∧ i = .int .i64 ((p + j : Nat) : Int) ∧ x = .int .u64 (acc : Int) ∧ p + j ≤ n ∧ j ≤ 9 ∧ acc < 128 ^ j ∧ Hid (vget (l.drop p) = vgo (l.drop (p + j)) j acc ∧ vge (l.drop p) 0 = vge (l.drop (p + j)) j) ∧ w = wr)
  case atStart => exact ⟨0, 0, by omega, rfl, rfl, by omega, by omega, by omega, ⟨rfl, rfl⟩, rfl⟩
  case round =>
    obtain ⟨j, acc, hgk, rfl, rfl, hpj, hj, hacc, hv, rfl⟩ := hrel
    by_cases hlt : p + j < n
    · obtain ⟨b, off, rfl, hb, hc⟩ := H.out.at_ (by omega)
      have hc1 := hc (p + j) hlt
      have hd := Lib.hid (drop_at l (p + j) (by omega))
      clear hc
      generalize l.getD (p + j) 0 = x at *
      have hx := x.toNat_lt
      have he0 : ((x.toNat : Int) == 0) = decide (x = 0) := u8_eq x 0 (by omega)
      by_cases hbad : (0 < j ∧ x = 0) ∨ 8 < j
      · have hno : Hid (vget (l.drop p) = none ∧ vge (l.drop p) 0 = 3) := by show _ ∧ _; rw [hv.out.1, hv.out.2, hd.out, vgo_bad _ _ _ _ hbad, vge_bad _ _ _ hbad]; exact ⟨rfl, rfl⟩
        clear hv hd hacc
        by_cases h8 : 8 < j
        · have hj9 : Hid (j = 9) := by show _ = _; omega
          by_cases h0 : x = 0
          · rw [decide_eq_true h0] at he0
            clear hbad h0
            go_wp2_with (fail)
            rw [Exit.noGoto_ret]
            go_ret3
            exact .inr ⟨hno.out.1, ret_vg hno.out.2.symm, rfl⟩
          · rw [decide_eq_false h0] at he0
            clear hbad h0
            go_wp2_with (fail)
            rw [Exit.noGoto_ret]
            go_ret3
            exact .inr ⟨hno.out.1, ret_vg hno.out.2.symm, rfl⟩
        · have h0 : 0 < j ∧ x = 0 := hbad.resolve_right h8
          rw [decide_eq_true h0.2] at he0
          have hj0 := h0.1
          clear hbad h0
          go_wp2_with (fail)
          rw [Exit.noGoto_ret]
          go_ret3
          exact .inr ⟨hno.out.1, ret_vg hno.out.2.symm, rfl⟩
      · have hj8 : j ≤ 8 := by omega
        have hp8 : (128 : Nat) ^ j ≤ 128 ^ 8 := Nat.pow_le_pow_right (by omega) hj8
        have h8e : (128 : Nat) ^ 8 = 72057594037927936 := by decide
        have hacc8 : acc < 72057594037927936 := by omega
        have ha := u8_and127 x
        have ho := or_step acc x.toNat j hj8 hacc
        have ho0 := fun h => or_step0 acc x.toNat j h hacc
        have hm : x.toNat % 128 < 128 := Nat.mod_lt _ (by omega)
        have hb2 : x.toNat % 128 * 128 ^ j ≤ 127 * 128 ^ j := Nat.mul_le_mul_right _ (by omega)
        have hnx : acc + x.toNat % 128 * 128 ^ j < 128 ^ (j + 1) := by rw [Nat.pow_succ]; omega
        have hn63 : acc + x.toNat % 128 * 128 ^ j < 9223372036854775808 := by omega
        have hj0 : x = 0 → j = 0 := fun h0 => by
          rcases Nat.eq_zero_or_pos j with h | h
          · exact h
          · exact absurd (.inl ⟨h, h0⟩) hbad
        have hd1 := Lib.hid (fun (hc : x.toNat < 128) => (hv.out.1.trans (by rw [hd.out]; exact vgo_end x (l.drop (p + j + 1)) j acc hbad hc) : vget (l.drop p) = some (acc + x.toNat % 128 * 128 ^ j, j + 1)))
        have hd2 := Lib.hid (fun (hc : ¬ x.toNat < 128) => ((⟨hv.out.1.trans (by rw [hd.out]; exact vgo_more x (l.drop (p + j + 1)) j acc hbad hc), hv.out.2.trans (by rw [hd.out]; exact vge_more x (l.drop (p + j + 1)) j hbad hc)⟩) : vget (l.drop p) = vgo (l.drop (p + j + 1)) (j + 1) (acc + x.toNat % 128 * 128 ^ j) ∧ vge (l.drop p) 0 = vge (l.drop (p + j + 1)) (j + 1)))
        clear hp8 h8e hb2 hv hd hbad hacc hm
        generalize acc + x.toNat % 128 * 128 ^ j = acc2 at *
        have hcase : (decide (x = 0) = true ∧ j = 0) ∨ decide (x = 0) = false := by
          by_cases h0 : x = 0
          · exact .inl ⟨decide_eq_true h0, hj0 h0⟩
          · exact .inr (decide_eq_false h0)
        clear hj0
        rcases hcase with ⟨h0, rfl⟩ | h0
        all_goals
          rw [h0] at he0
          clear h0
          try simp only [Nat.add_zero] at hc1
          try have ho1 := ho0 rfl
          clear ho0
          by_cases hc : x.toNat < 128
          · have hres := Lib.hid (hd1.out hc)
            clear hd1 hd2 hnx
            go_wp2_with (fail)
            rw [Exit.noGoto_ret]
            go_ret3
            exact .inl ⟨acc2, _, hres.out, rfl, rfl⟩
          · have hres := Lib.hid (hd2.out hc)
            have hnx' := Lib.hid hnx
            clear hd1 hd2 hnx
            go_wp2_with (fail)
            go_roundg (gk - 1)
            case measure => omega
            case rel => exact ⟨_, acc2, by omega, by go_num, rfl, by omega, by omega, hnx'.out, hres, rfl⟩
    · have hno : Hid (vget (l.drop p) = none ∧ vge (l.drop p) 0 = 1) := by show _ ∧ _; rw [hv.out.1, hv.out.2, List.drop_eq_nil_of_le (by omega), vgo_nil, vge_nil]; exact ⟨rfl, rfl⟩
      clear hv hacc
      go_wp2_with (fail)
      rw [Exit.noGoto_ret]
      go_ret3
      exact .inr ⟨hno.out.1, ret_vg hno.out.2.symm, rfl⟩
theorem vget_ok {A : Option Addr} {n c : Nat} {l : List UInt8} {p : Nat} {w : World} (hn : n ≤ 1000000) (hp : p ≤ n) (h : BAt w A n l) {v k : Nat} (hv : vget (l.drop p) = some (v, k)) :
    Calls Tryz.prog 117 #[.slice A n c, .int .i64 (p : Int)] w fun e w' => e = .returned (.tuple #[.int .i64 (v : Int), .int .i64 ((p + k : Nat) : Int), .int .i64 0]) ∧ w = w' :=
  (vget_calls A n c l p w hn hp h).mono fun e w' hq => by
    rcases hq with ⟨v', k', h1, h2, h3⟩ | ⟨h1, _⟩
    · rw [hv] at h1; cases h1; exact ⟨h2, h3⟩
    · rw [hv] at h1; cases h1
theorem vget_no {A : Option Addr} {n c : Nat} {l : List UInt8} {p : Nat} {w : World} (hn : n ≤ 1000000) (hp : p ≤ n) (h : BAt w A n l) (hv : vget (l.drop p) = none) :
    Calls Tryz.prog 117 #[.slice A n c, .int .i64 (p : Int)] w fun e w' => e = .returned (.tuple #[.int .i64 0, .int .i64 0, .int .i64 (vge (l.drop p) 0)]) ∧ w = w' :=
  (vget_calls A n c l p w hn hp h).mono fun e w' hq => by
    rcases hq with ⟨v', k', h1, h2, h3⟩ | ⟨h1, h2, h3⟩
    · rw [hv] at h1; cases h1
    · exact ⟨h2, h3⟩
end Go.Proofs.YtdgbpmbknlhgmaaGreatDoor
set_option linter.unusedVariables false
set_option linter.unusedSimpArgs false
namespace Go.Proofs.YtdgbpmbknlhgmaaGreatDoor
open Go.RowKit Qt Vm

/-- a reader's bytes lie elsewhere, and fit. -/
def Apart (A : Option Addr) (n c g : Nat) : Prop := n ≤ c ∧ ∀ ad, A = some ad → ad.block < g
/-- a reader at a block that has read up to a place, without a fault. -/
def RdOk (w : World) (g : Nat) (l : List UInt8) (q : Nat) : Prop := ∃ A n c, Blk w g 82 #[.slice A n c, .int .i64 (q : Int), .int .i64 0] ∧ BAt w A n l ∧ q ≤ l.length ∧ Apart A n c g
/-- a reader that has found a fault. -/
def RdNo (w : World) (g : Nat) : Prop := ∃ v p er, Blk w g 82 #[v, .int .i64 p, .int .i64 er] ∧ er ≠ 0
theorem RdOk.lt {w : World} {g : Nat} {l : List UInt8} {q : Nat} (h : RdOk w g l q) : g < w.heap.size := by obtain ⟨A, n, c, h, _⟩ := h; exact h.lt
theorem RdNo.lt {w : World} {g : Nat} (h : RdNo w g) : g < w.heap.size := by obtain ⟨v, p, er, h, _⟩ := h; exact h.lt
theorem RdOk.below {w w' : World} {g : Nat} {l : List UInt8} {q : Nat} (h : RdOk w g l q) (hb : Below w.heap.size w w') : RdOk w' g l q := by
  obtain ⟨A, n, c, h1, h2, h3, h4⟩ := h
  exact ⟨A, n, c, h1.call hb, h2.below hb, h3, h4⟩
theorem RdNo.below {w w' : World} {g : Nat} (h : RdNo w g) (hb : Below w.heap.size w w') : RdNo w' g := by
  obtain ⟨v, p, er, h1, h2⟩ := h
  exact ⟨v, p, er, h1.call hb, h2⟩
theorem bat_set {w : World} {A : Option Addr} {n c : Nat} {l : List UInt8} {g : Nat} (h : BAt w A n l) (hne : Apart A n c g) (i : Nat) (u : Value) : BAt (w.setCell ⟨g, i, none⟩ u) A n l := by
  refine ⟨h.1, fun hn => ?_⟩
  obtain ⟨ad, e, hb, hc⟩ := h.2 hn
  refine ⟨ad, e, by simpa [World.setCell] using hb, fun j v hj => ?_⟩
  rw [← hc j v hj]
  refine World.cell?_setCell_other w _ _ _ (fun e2 => Nat.ne_of_lt (hne.2 ad e) ?_)
  have := congrArg Addr.block e2
  rw [block_of_add] at this
  exact this.symm
/-- a store behind a reader's block. -/
theorem RdOk.far {w : World} {g : Nat} {l : List UInt8} {q : Nat} (h : RdOk w g l q) {p : Addr} (hp : g < p.block) (u : Value) : RdOk (w.setCell p u) g l q := by
  obtain ⟨A, n, c, h1, h2, h3, h4⟩ := h
  refine ⟨A, n, c, h1.far (by omega) u, ⟨h2.1, fun hn => ?_⟩, h3, h4⟩
  obtain ⟨ad, e, hb, hc⟩ := h2.2 hn
  have hlt := h4.2 ad e
  refine ⟨ad, e, by simpa [World.setCell] using hb, fun j v hj => ?_⟩
  rw [← hc j v hj]
  refine World.cell?_setCell_other w _ _ _ (fun e2 => ?_)
  have := congrArg Addr.block e2
  rw [block_of_add] at this
  omega
theorem RdNo.far {w : World} {g : Nat} (h : RdNo w g) {p : Addr} (hp : g < p.block) (u : Value) : RdNo (w.setCell p u) g := by
  obtain ⟨v, q, er, h1, h2⟩ := h
  exact ⟨v, q, er, h1.far (by omega) u, h2⟩
theorem only_trans {a b c : World} {row : Option Nat} (h : a.grownBy b row) (k : b.grownBy c row) : a.grownBy c row :=
  ⟨k.os.trans h.os, k.tape.trans h.tape, k.output.trans h.output, Nat.le_trans h.size k.size, fun i hi hne => (k.block i (Nat.lt_of_lt_of_le hi h.size) hne).trans (h.block i hi hne)⟩
theorem only_refl (a : World) (row : Option Nat) : a.grownBy a row := ⟨rfl, rfl, rfl, Nat.le_refl _, fun _ _ _ => rfl⟩
theorem below_of_only {B : Nat} {a w : World} {g : Nat} (h : a.grownBy w (some g)) (hB : B ≤ a.heap.size) (hg : B ≤ g) : Below B a w := ⟨h.os, h.tape, h.output, h.size, fun i hi => h.block i (by omega) (fun e => by cases e; omega)⟩

set_option maxHeartbeats 1000000 in
theorem fail_calls (g : Nat) (v : Value) (p er x : Int) (w : World) (hB : Blk w g 82 #[v, .int .i64 p, .int .i64 er]) :
    Calls Tryz.prog 118 #[.pointer (some ⟨g, 0, none⟩), .int .i64 x] w fun e w' => e = .returned (.tuple #[]) ∧ Blk w' g 82 #[v, .int .i64 p, .int .i64 x] ∧ w' = w.setCell ⟨g, 2, none⟩ (.int .i64 x) := by
  obtain ⟨kc, kf, hlt⟩ := hB.facts
  have hB' := Lib.hid (hB.set_ 2 (.int .i64 x))
  clear hB
  go_enter Tryz.func118, Tryz.ntmps118
  go_wp2
  go_end0
  exact ⟨rfl, hB'.out, rfl⟩

set_option maxHeartbeats 1000000 in
theorem left_calls (g : Nat) (A : Option Addr) (n c q : Nat) (er : Int) (w : World) (hn : n ≤ 1000000) (hq : q ≤ n) (hB : Blk w g 82 #[.slice A n c, .int .i64 (q : Int), .int .i64 er]) :
    Calls Tryz.prog 77 #[.pointer (some ⟨g, 0, none⟩)] w fun e w' => e = .returned (.int .i64 ((n - q : Nat) : Int)) ∧ Below w.heap.size w w' := by
  obtain ⟨kc, kf, hlt⟩ := hB.facts
  clear hB
  go_enter Tryz.func77, Tryz.ntmps77
  go_wp2
  go_quiet (fail)
  go_wp2
  go_ret
  exact ⟨ret_int (by omega), below_drewN (Below.refl _ _) _⟩

/-- a number that is not above another one, at a place; and the place behind it. -/
def numR (most : Nat) (l : List UInt8) (q : Nat) : Option (Nat × Nat) :=
  match vget (l.drop q) with
  | none => none
  | some (v, k) => if v ≤ most then some (v, q + k) else none
theorem numR_le {most : Nat} {l : List UInt8} {q v q' : Nat} (h : numR most l q = some (v, q')) (hq : q ≤ l.length) : q < q' ∧ q' ≤ l.length ∧ v ≤ most := by
  unfold numR at h
  rcases hv : vget (l.drop q) with _ | ⟨v', k⟩
  · rw [hv] at h; cases h
  · rw [hv] at h
    simp only at h
    split at h
    · cases h
      obtain ⟨h1, h2, _⟩ := vget_some hv
      rw [List.length_drop] at h2
      exact ⟨by omega, by omega, by assumption⟩
    · cases h
/-- how a reading of a number ends. -/
def EndsN (r : Option (Nat × Nat)) (g : Nat) (l : List UInt8) (w : World) (e : Ending) (w' : World) : Prop :=
  ((∃ v q', r = some (v, q') ∧ e = .returned (.int .i64 (v : Int)) ∧ RdOk w' g l q') ∨ (r = none ∧ (∃ x : Int, e = .returned (.int .i64 x)) ∧ RdNo w' g)) ∧ w.grownBy w' (some g)

set_option maxHeartbeats 4000000 in
set_option maxRecDepth 100000 in
theorem limited_calls (g : Nat) (l : List UInt8) (q most : Nat) (w : World) (hl : l.length ≤ 1000000) (hm : most < 9223372036854775808) (h : RdOk w g l q) :
    Calls Tryz.prog 94 #[.pointer (some ⟨g, 0, none⟩), .int .i64 (most : Int)] w (EndsN (numR most l q) g l w) := by
  obtain ⟨A, n, c, hB, hA, hq, hne⟩ := h
  have hln := hA.len
  have hB' := Lib.hid hB
  have hA' := Lib.hid hA
  have hne' := Lib.hid hne
  rcases hv : vget (l.drop q) with _ | ⟨v, k⟩
  · have hr : Hid (numR most l q = none) := by show _ = _; unfold numR; rw [hv]
    have her := vge_ne _ _ _ hv
    obtain ⟨kc, kf, hlt⟩ := hB.facts
    have H := fun nq => vget_no (A := A) (n := n) (c := c) (l := l) (p := q) (w := w.drewN nq) (by omega) (by omega) (hA.below (below_drewN (Below.refl _ _) _)) hv
    generalize vge (l.drop q) 0 = er at *
    clear hB hA hne hv
    go_enter Tryz.func94, Tryz.ntmps94
    go_wp2_with (fail)
    go_quiet ((go_at_call 117; exact quiet_left (H _)))
    go_wp2_with (fail)
    have hn0 : (er == 0) = false := by rw [beq_eq_false_iff_ne]; exact her
    have hB1 : Hid (Blk (w.drewN nq) g 82 #[.slice A n c, .int .i64 (q : Int), .int .i64 0]) := hB'.out.drewN nq
    have hg1 : Hid (w.grownBy (w.drewN nq) (some g)) := only_drewN (only_refl _ _) nq
    clear H kc kf
    have HF := fail_calls g (.slice A n c) (q : Int) 0 er (w.drewN nq) hB1.out
    generalize w.drewN nq = W at *
    refine HF.mono ?_
    rintro e w2 ⟨rfl, hB2, rfl⟩
    have hB2' := Lib.hid hB2
    obtain ⟨kc, kf, hlt2⟩ := hB2.facts
    clear hB2 HF
    go_wp2_with (fail)
    go_ret
    exact ⟨.inr ⟨hr.out, ⟨_, rfl⟩, ⟨_, _, er, hB2'.out.set_ 1 _, her⟩⟩, only_setCell (only_setCell hg1.out (.inl rfl) _) (.inl rfl) _⟩
  · obtain ⟨hk1, hk2, -, hv63, -⟩ := vget_some hv
    rw [List.length_drop] at hk2
    obtain ⟨kc, kf, hlt⟩ := hB.facts
    have H := fun nq => vget_ok (A := A) (n := n) (c := c) (l := l) (p := q) (w := w.drewN nq) (by omega) (by omega) (hA.below (below_drewN (Below.refl _ _) _)) hv
    by_cases hvm : v ≤ most
    · have hr : Hid (numR most l q = some (v, q + k)) := by show _ = _; unfold numR; rw [hv]; exact if_pos hvm
      clear hB hA hne hv
      go_enter Tryz.func94, Tryz.ntmps94
      go_wp2_with (fail)
      go_quiet ((go_at_call 117; exact quiet_left (H _)))
      have hB1 : Hid (Blk (w.drewN nq) g 82 #[.slice A n c, .int .i64 (q : Int), .int .i64 0]) := hB'.out.drewN nq
      have hg1 : Hid (w.grownBy (w.drewN nq) (some g)) := only_drewN (only_refl _ _) nq
      have hA1 : Hid (BAt (w.drewN nq) A n l) := hA'.out.below (below_drewN (Below.refl _ _) _)
      clear H kc kf
      generalize w.drewN nq = W at *
      obtain ⟨kc, kf, hlt2⟩ := hB1.out.facts
      go_wp2_with (fail)
      go_ret
      exact ⟨.inl ⟨v, q + k, hr.out, rfl, ⟨A, n, c, (by rw [show ((q + k : Nat) : Int) = (q : Int) + (k : Int) by omega]; exact hB1.out.set_ 1 _), bat_set hA1.out hne'.out _ _, by omega, hne'.out⟩⟩, only_setCell hg1.out (.inl rfl) _⟩
    · have hr : Hid (numR most l q = none) := by show _ = _; unfold numR; rw [hv]; exact if_neg hvm
      clear hB hA hne hv
      go_enter Tryz.func94, Tryz.ntmps94
      go_wp2_with (fail)
      go_quiet ((go_at_call 117; exact quiet_left (H _)))
      have hB1 : Hid (Blk (w.drewN nq) g 82 #[.slice A n c, .int .i64 (q : Int), .int .i64 0]) := hB'.out.drewN nq
      have hg1 : Hid (w.grownBy (w.drewN nq) (some g)) := only_drewN (only_refl _ _) nq
      clear H kc kf
      go_wp2_with (fail)
      have HF := fail_calls g (.slice A n c) (q : Int) 0 2 (w.drewN nq) hB1.out
      generalize w.drewN nq = W at *
      refine HF.mono ?_
      rintro e w2 ⟨rfl, hB2, rfl⟩
      have hB2' := Lib.hid hB2
      obtain ⟨kc, kf, hlt2⟩ := hB2.facts
      clear hB2 HF
      go_wp2_with (fail)
      go_ret
      exact ⟨.inr ⟨hr.out, ⟨_, rfl⟩, ⟨_, _, 2, hB2'.out.set_ 1 _, by omega⟩⟩, only_setCell (only_setCell hg1.out (.inl rfl) _) (.inl rfl) _⟩
end Go.Proofs.YtdgbpmbknlhgmaaGreatDoor
set_option linter.unusedVariables false
set_option linter.unusedSimpArgs false
namespace Go.Proofs.YtdgbpmbknlhgmaaGreatDoor
open Go.RowKit Qt Vm

/-- a number of which there are as many bytes left. -/
def cntR (most : Nat) (l : List UInt8) (q : Nat) : Option (Nat × Nat) :=
  match numR most l q with
  | none => none
  | some (v, q') => if v ≤ l.length - q' then some (v, q') else none
theorem cntR_le {most : Nat} {l : List UInt8} {q v q' : Nat} (h : cntR most l q = some (v, q')) (hq : q ≤ l.length) : q < q' ∧ q' + v ≤ l.length := by
  unfold cntR at h
  rcases hv : numR most l q with _ | ⟨v', k⟩
  · rw [hv] at h; cases h
  · rw [hv] at h
    simp only at h
    split at h
    · cases h
      obtain ⟨h1, h2, _⟩ := numR_le hv hq
      exact ⟨h1, by omega⟩
    · cases h

set_option maxHeartbeats 4000000 in
set_option maxRecDepth 100000 in
theorem counted_calls (g : Nat) (l : List UInt8) (q most : Nat) (w : World) (hl : l.length ≤ 1000000) (hm : most < 9223372036854775808) (h : RdOk w g l q) :
    Calls Tryz.prog 149 #[.pointer (some ⟨g, 0, none⟩), .int .i64 (most : Int)] w (EndsN (cntR most l q) g l w) := by
  have hq : q ≤ l.length := by obtain ⟨A, n, c, _, _, h3, _⟩ := h; exact h3
  have hlt := h.lt
  have H := Lib.hid (limited_calls g l q most w hl hm h)
  clear h
  go_enter Tryz.func149, Tryz.ntmps149
  go_wp2_with (fail)
  refine H.out.mono ?_
  rintro e w1 ⟨h1, hg1⟩
  have hg1' := Lib.hid hg1
  clear hg1 H
  rcases h1 with ⟨v, q', hr, rfl, hok⟩ | ⟨hr, ⟨x, rfl⟩, hno⟩
  · obtain ⟨hq1, hq2, hv⟩ := numR_le hr hq
    obtain ⟨A, n, c, hB, hA, h3, hne⟩ := hok
    have hln := hA.len
    have HL := left_calls g A n c q' 0 w1 (by omega) (by omega) hB
    obtain ⟨kc, kf, hlt1⟩ := hB.facts
    have hB' := Lib.hid hB
    have hA' := Lib.hid hA
    have hne' := Lib.hid hne
    have hnn : Hid (n = l.length) := hln.symm
    by_cases hvl : v ≤ n - q'
    · have hr2 : Hid (cntR most l q = some (v, q')) := by show _ = _; unfold cntR; rw [hr]; exact if_pos (by rw [hln]; exact hvl)
      clear hB hA hne hr hln
      go_wp2_with (fail)
      refine HL.mono ?_
      rintro e w2 ⟨rfl, hb2⟩
      have hB2 := Lib.hid (hB'.out.call hb2)
      have hA2 := Lib.hid (hA'.out.below hb2)
      have hg2 : Hid (w.grownBy w2 (some g)) := only_trans hg1'.out (only_of_below hb2 _)
      clear kc kf HL hb2
      obtain ⟨kc, kf, hlt2⟩ := hB2.out.facts
      go_wp2_with (fail)
      go_ret
      exact ⟨.inl ⟨v, q', hr2.out, rfl, ⟨A, n, c, hB2.out, hA2.out, by omega, hne'.out⟩⟩, hg2.out⟩
    · have hr2 : Hid (cntR most l q = none) := by show _ = _; unfold cntR; rw [hr]; exact if_neg (by rw [hln]; exact hvl)
      clear hB hA hne hr hln
      go_wp2_with (fail)
      refine HL.mono ?_
      rintro e w2 ⟨rfl, hb2⟩
      have hB2 := Lib.hid (hB'.out.call hb2)
      have hg2 : Hid (w.grownBy w2 (some g)) := only_trans hg1'.out (only_of_below hb2 _)
      clear kc kf HL hb2
      obtain ⟨kc, kf, hlt2⟩ := hB2.out.facts
      have HF := fail_calls g (.slice A n c) (q' : Int) 0 1 w2 hB2.out
      go_wp2_with (fail)
      refine HF.mono ?_
      rintro e w3 ⟨rfl, hB3, rfl⟩
      have hB3' := Lib.hid hB3
      clear HF hB3 kc kf
      go_wp2_with (fail)
      go_ret
      exact ⟨.inr ⟨hr2.out, ⟨_, rfl⟩, ⟨_, _, 1, hB3'.out, by omega⟩⟩, only_setCell hg2.out (.inl rfl) _⟩
  · have hr2 : Hid (cntR most l q = none) := by show _ = _; unfold cntR; rw [hr]
    obtain ⟨v, p, er, hB, her⟩ := hno
    obtain ⟨kc, kf, hlt1⟩ := hB.facts
    have hB' := Lib.hid hB
    have hn0 : (er == 0) = false := by rw [beq_eq_false_iff_ne]; exact her
    clear hB hr
    go_wp2_with (fail)
    go_ret
    exact ⟨.inr ⟨hr2.out, ⟨_, rfl⟩, ⟨_, _, er, hB'.out, her⟩⟩, hg1'.out⟩

theorem bat_sub {w : World} {A : Option Addr} {n v q : Nat} {l : List UInt8} (h : BAt w A n l) (hv : q + v ≤ n) : BAt w (A.map fun x => x.add q) v ((l.drop q).take v) := by
  have hln := h.len
  refine ⟨by rw [Lib.byteCells_length, List.length_take, List.length_drop]; omega, fun h0 => ?_⟩
  obtain ⟨ad, rfl, hb, hc⟩ := h.2 (by omega)
  refine ⟨ad.add q, rfl, by rw [block_of_add]; exact hb, fun j u hj => ?_⟩
  rw [add_of_add]
  refine hc (q + j) u ?_
  unfold Lib.byteCells at hj ⊢
  rw [List.map_take, List.map_drop, List.getElem?_take] at hj
  split at hj
  · rw [List.getElem?_drop] at hj; exact hj
  · cases hj
theorem bat_zero {w : World} (A : Option Addr) (l : List UInt8) (q : Nat) {v : Nat} (hv : v = 0) : BAt w A v ((l.drop q).take v) := by
  subst hv
  exact ⟨rfl, fun h => absurd h (by omega)⟩
/-- how a reading of bytes ends. -/
def EndsB (r : Option (Nat × Nat)) (g : Nat) (l : List UInt8) (w : World) (e : Ending) (w' : World) : Prop :=
  ((∃ v q' A d, r = some (v, q') ∧ e = .returned (.slice A v d) ∧ BAt w' A v ((l.drop q').take v) ∧ RdOk w' g l (q' + v)) ∨ (r = none ∧ (∃ A n d, e = .returned (.slice A n d)) ∧ RdNo w' g)) ∧ w.grownBy w' (some g)

set_option maxHeartbeats 1000000 in
set_option maxRecDepth 100000 in
theorem raw_calls (g : Nat) (l : List UInt8) (q most : Nat) (w : World) (hl : l.length ≤ 1000000) (hm : most < 9223372036854775808) (h : RdOk w g l q) :
    Calls Tryz.prog 135 #[.pointer (some ⟨g, 0, none⟩), .int .i64 (most : Int)] w (EndsB (cntR most l q) g l w) := by
  have hq : q ≤ l.length := by obtain ⟨A, n, c, _, _, h3, _⟩ := h; exact h3
  have hlt := h.lt
  have H := Lib.hid (counted_calls g l q most w hl hm h)
  clear h
  go_enter Tryz.func135, Tryz.ntmps135
  go_wp2_with (fail)
  refine H.out.mono ?_
  rintro e w1 ⟨h1, hg1⟩
  have hg1' := Lib.hid hg1
  clear hg1 H
  rcases h1 with ⟨v, q', hr, rfl, hok⟩ | ⟨hr, ⟨x, rfl⟩, hno⟩
  · obtain ⟨hq1, hq2⟩ := cntR_le hr hq
    have hr' := Lib.hid hr
    obtain ⟨A, n, c, hB, hA, h3, hne⟩ := hok
    have hln := hA.len
    obtain ⟨kc, kf, hlt1⟩ := hB.facts
    have hB' := Lib.hid (hB.set_ 1 (.int .i64 ((q' : Int) + (v : Int))))
    have hA' := Lib.hid (bat_set hA hne 1 (.int .i64 ((q' : Int) + (v : Int))))
    have hne' := Lib.hid hne
    have hg2 : Hid (w.grownBy (w1.setCell ⟨g, 1, none⟩ (.int .i64 ((q' : Int) + (v : Int)))) (some g)) := only_setCell hg1'.out (.inl rfl) _
    have hnn : Hid (n = l.length) := hln.symm
    have hnc := hne.1
    have hqn : q' + v ≤ n := by omega
    clear hB hA hne hr hln
    go_wp2_with (fail)
    have hw1 : IntKind.i64.wrap (q' : Int) = (q' : Int) := by rw [IntKind.wrap_i64]; omega
    have hw2 : (0 : Int) ≤ (q' : Int) := by omega
    have hw3 : (q' : Int) ≤ (q' : Int) + (v : Int) := by omega
    have hw4 : (q' : Int) + (v : Int) ≤ (c : Int) := by omega
    have hw5 : ((q' : Int) + (v : Int)).toNat = q' + v := by omega
    clear kc kf
    refine wp_region_tail 15 (by kernel_rfl) (by kernel_rfl) ?_
    intro W hW
    have hB2 : Blk W g 82 #[.slice A n c, .int .i64 ((q' : Int) + (v : Int)), .int .i64 0] := by subst hW; exact hB'.out.drew
    have hA2 : Hid (BAt W A n l) := by subst hW; exact hA'.out.below (Below.drew (Below.refl _ _))
    have hg3 : Hid (w.grownBy W (some g)) := by subst hW; exact only_drew hg2.out
    obtain ⟨kc, kf, hlt2⟩ := hB2.facts
    have hB2' := Lib.hid hB2
    clear hW hB2 hB' hA' hg2 hg1'
    simp only [List.take_succ_cons, List.take_zero, List.drop_succ_cons, List.drop_zero]
    repeat (first | still_step)
    refine wpStill_nil ?_
    go_wp2_with (fail)
    · clear hw1 hw2 hw3 hw4 hw5
      refine (clone_calls _ v _ _ W (by omega) (bat_zero A l q' (by omega))).mono ?_
      rintro e w2 ⟨B, d, rfl, hown, hb2⟩
      have hown' := Lib.hid hown
      clear hown kc kf
      go_wp2_with (fail)
      go_ret
      exact ⟨.inl ⟨v, q', B, d, hr'.out, rfl, BAt.own hown'.out, ⟨A, n, _, hB2'.out.call hb2, hA2.out.below hb2, by omega, hne'.out⟩⟩, only_trans hg3.out (only_of_below hb2 _)⟩
    · clear hw1 hw2 hw3 hw4 hw5
      refine (clone_calls _ v _ _ W (by omega) (bat_sub hA2.out (by omega))).mono ?_
      rintro e w2 ⟨B, d, rfl, hown, hb2⟩
      have hown' := Lib.hid hown
      clear hown kc kf
      go_wp2_with (fail)
      go_ret
      exact ⟨.inl ⟨v, q', B, d, hr'.out, rfl, BAt.own hown'.out, ⟨A, n, c, hB2'.out.call hb2, hA2.out.below hb2, by omega, hne'.out⟩⟩, only_trans hg3.out (only_of_below hb2 _)⟩
  · have hr2 := Lib.hid hr
    obtain ⟨v, p, er, hB, her⟩ := hno
    obtain ⟨kc, kf, hlt1⟩ := hB.facts
    have hB' := Lib.hid hB
    have hn0 : (er == 0) = false := by rw [beq_eq_false_iff_ne]; exact her
    clear hB hr
    go_wp2_with (fail)
    go_ret
    exact ⟨.inr ⟨hr2.out, ⟨_, _, _, rfl⟩, ⟨_, _, er, hB'.out, her⟩⟩, hg1'.out⟩
end Go.Proofs.YtdgbpmbknlhgmaaGreatDoor
