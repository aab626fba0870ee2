/-
The walks through slices.Clone, varint.Put, changeoverref01.Bytes, changeoverref01.Same.
The walks through changeoverref01.Bytes, changeoverref01.Same, changeoverref04.Text, changeoverref04.Flag.
The walks through pack.Writer.
-/
import Derived.Test.YtdgbpmbknlhgmaaGreatDoorWords
import Derived.Test.YtdgbpmbknlhgmaaGreatDoorVarMath
import Derived.Lib.SliceRun
set_option linter.unusedVariables false
set_option linter.unusedSimpArgs false
namespace Go.Proofs.YtdgbpmbknlhgmaaGreatDoor
open Go.RowKit Qt Vm

/-- a slice that reads as these bytes. -/
def BAt (w : World) (A : Option Addr) (n : Nat) (l : List UInt8) : Prop := Reads w w.heap.size 1 A n (Lib.byteCells l)
theorem BAt.len {w : World} {A : Option Addr} {n : Nat} {l : List UInt8} (h : BAt w A n l) : l.length = n := by have := h.1; rw [Lib.byteCells_length] at this; omega
theorem BAt.below {w w' : World} {A : Option Addr} {n : Nat} {l : List UInt8} (h : BAt w A n l) (hb : Below w.heap.size w w') : BAt w' A n l := (Reads.below h hb).more hb.size
theorem BAt.alloc {w : World} {A : Option Addr} {n : Nat} {l : List UInt8} (h : BAt w A n l) (o : Obj) : BAt (w.alloc o) A n l := h.below ((Below.refl _ _).alloc (Nat.le_refl _) o)
theorem BAt.own {w : World} {base : Nat} {e : TypeId} {n c : Nat} {A : Option Addr} {l : List UInt8} (h : w.ownsRow base e 1 (.slice A n c) n (Lib.byteCells l)) : BAt w A n l := Reads.of_own h
theorem byteCells_at (l : List UInt8) (k : Nat) (h : k < l.length) : (Lib.byteCells l)[k]? = some (.int .u8 ((l.getD k 0).toNat : Int)) := by
  unfold Lib.byteCells
  rw [List.getElem?_map, List.getElem?_eq_getElem h, List.getD_eq_getElem?_getD, List.getElem?_eq_getElem h]; rfl
theorem BAt.at_ {w : World} {A : Option Addr} {n : Nat} {l : List UInt8} (h : BAt w A n l) (hn : 0 < n) :
    ∃ b off, A = some ⟨b, off, none⟩ ∧ b < w.heap.size ∧ ∀ k, k < n → w.cell? ⟨b, off + k, none⟩ = some (.int .u8 ((l.getD k 0).toNat : Int)) := by
  obtain ⟨ad, e, hb, hc⟩ := h.2 hn
  obtain ⟨b, off, spot⟩ := ad
  have hspot : spot = none := by
    have g0 := hc _ _ (byteCells_at l 0 (by rw [h.len]; omega))
    exact World.cell?_spot g0
  subst hspot
  have ha : ∀ j, Addr.add ⟨b, off, none⟩ j = ⟨b, off + j, none⟩ := fun j => by unfold Addr.add; split <;> simp_all
  refine ⟨b, off, e, hb, fun k hk => ?_⟩
  have g := hc _ _ (byteCells_at l k (by rw [h.len]; omega))
  rw [ha] at g
  exact g
theorem bytes_one (l : List UInt8) : ∀ u ∈ Lib.byteCells l, u.oneCell' = true := by
  intro u hu
  obtain ⟨b, _, rfl⟩ := List.mem_map.1 hu
  rfl
theorem own_new (w : World) (e : TypeId) : (w.alloc (.cells #[] e)).ownsRow w.heap.size e 1 (.slice (some ⟨w.heap.size, 0, none⟩) 0 0) 0 [] :=
  ⟨rfl, .inr ⟨w.heap.size, 0, #[], rfl, Nat.le_refl _, heap_alloc_new w _, Nat.le_refl _, by decide, rfl, rfl⟩⟩
theorem own_form {w : World} {base : Nat} {e : TypeId} {size n : Nat} {v : Value} {xs : List Value} (h : w.ownsRow base e size v n xs) : ∃ A c, v = .slice A n c := by
  rcases h.2 with ⟨rfl, rfl⟩ | ⟨g, cap, cur, rfl, _⟩
  · exact ⟨none, 0, rfl⟩
  · exact ⟨_, _, rfl⟩

set_option maxHeartbeats 1000000 in
theorem clone_calls (A : Option Addr) (n c : Nat) (l : List UInt8) (w : World) (hn : n ≤ 140737488351232) (h : BAt w A n l) :
    Calls Tryz.prog 50 #[.slice A n c] w fun e w' => ∃ B d, e = .returned (.slice B n d) ∧ w'.ownsRow w.heap.size 5 1 (.slice B n d) n (Lib.byteCells l) ∧ Below w.heap.size w w' := by
  obtain ⟨i0, hi, hz0, hz1, hz2⟩ := info_parts bByte
  have heq := fun (w : World) => Lib.run_eql_slice_nil (P := Tryz.prog) w 26 5 A n c 0 0 Tryz.underlying26
  have hlen := h.len
  rcases A with _ | ad
  · have hn0 : n = 0 := by
      rcases Nat.eq_zero_or_pos n with h0 | h0
      · exact h0
      · obtain ⟨ad, h1, _⟩ := h.2 h0; cases h1
    subst hn0
    have hl : l = [] := List.eq_nil_of_length_eq_zero hlen
    subst hl
    clear h
    have heq : ∀ w : World, (binOp .eql 26 (.slice none 0 c) (.slice none 0 0)).run Tryz.prog w = .ok (.bool true) w := heq
    go_enter Tryz.func50, Tryz.ntmps50
    go_wp2
    go_ret
    exact ⟨none, 0, rfl, World.ownsRow_nil _ _ _ _, Below.refl _ _⟩
  · have heq : ∀ w : World, (binOp .eql 26 (.slice (some ad) n c) (.slice none 0 0)).run Tryz.prog w = .ok (.bool false) w := heq
    have H := Lib.hid h
    have hlen' := Lib.hid hlen
    clear h hlen
    go_enter Tryz.func50, Tryz.ntmps50
    go_wp2_with (at_builtin; refine wpList_append_any _ rfl _ _ 26 rfl w.heap.size 5 i0 _ 1 1 Tryz.underlying26 hi hz0 hz1 hz2 rfl (by omega) (.slice (some ⟨w.heap.size, 0, none⟩) 0 0) 0 [] rfl (own_new w _) w.heap.size (some ad) n c _ rfl (Reads.alloc H.out (Nat.le_refl _) _) (bytes_one l) (by simp only [maxLen]; omega) (by omega) (by simp) ?_)
    intro v' w2 hown' hgrow _
    have hb2 : Below w.heap.size w w2 := ((Below.refl _ _).alloc (Nat.le_refl _) _).grown hgrow (by simp) (by simp [Value.ownBlock])
    obtain ⟨B, d, rfl⟩ := own_form hown'
    have hown2 := Lib.hid hown'
    clear hown' hgrow
    go_wp2
    go_ret
    exact ⟨B, d, rfl, hown2.out, hb2⟩

theorem or128 (a : Nat) : bits .or .u8 ((a : Int) % 256) 128 = (((UInt8.ofNat (128 + a % 128)).toNat : Nat) : Int) := by
  have : ∀ x : Nat, x < 256 → bits .or .u8 (x : Int) 128 = (((UInt8.ofNat (128 + x % 128)).toNat : Nat) : Int) := by decide +kernel
  have h := this (a % 256) (Nat.mod_lt _ (by omega))
  rw [show a % 256 % 128 = a % 128 by omega, show ((a % 256 : Nat) : Int) = (a : Int) % 256 by omega] at h
  exact h
theorem snoc_small (l : List UInt8) (a : Nat) (h : a < 128) : Lib.byteCells l ++ [Value.int .u8 (a : Int)] = Lib.byteCells (l ++ [UInt8.ofNat a]) := by
  rw [byteCells_snoc1, UInt8.toNat_ofNat', Nat.mod_eq_of_lt (by omega)]

set_option maxHeartbeats 4000000 in
set_option maxRecDepth 100000 in
theorem put_calls (A : Option Addr) (n c : Nat) (l : List UInt8) (m : Nat) (w : World) (hn : n ≤ 1000000) (hm : m < 9223372036854775808) (h : BAt w A n l) :
    Calls Tryz.prog 81 #[.slice A n c, .int .i64 (m : Int)] w fun e w' => ∃ B k d, e = .returned (.slice B k d) ∧ w'.ownsRow w.heap.size 5 1 (.slice B k d) k (Lib.byteCells (l ++ vb m)) ∧ Below w.heap.size w w' := by
  obtain ⟨i0, hi, hz0, hz1, hz2⟩ := info_parts bByte
  have H := Lib.hid (clone_calls A n c l w (by omega) h)
  have hlen := Lib.hid h.len
  clear h
  go_enter Tryz.func81, Tryz.ntmps81
  go_wp2_with (fail)
  refine H.out.mono ?_
  rintro e w1 ⟨B, d, rfl, hown, hb1⟩
  have hown1 := Lib.hid hown
  clear hown H
  go_wp2_with (fail)
  have hz1 := hb1.size
  have hs0 : Hid (l ++ vb m = l ++ vb m) := rfl
  go_loopw [5, 1] (fun o i wr => ∃ (B : Option Addr) (k d : Nat) (acc : List UInt8) (q : Nat), o = .slice B k d ∧ i = .int .i64 (q : Int) ∧ q ≤ m ∧ k + (vb q).length ≤ n + (vb m).length ∧ Hid (wr.ownsRow w.heap.size 5 1 (.slice B k d) k (Lib.byteCells acc)) ∧ Hid (acc ++ vb q = l ++ vb m) ∧ Hid (Below w.heap.size w wr)) (fun _ i _ => (intOf i).toNat)
  case atStart => exact ⟨B, n, d, l, m, rfl, rfl, Nat.le_refl _, Nat.le_refl _, hown1.out, rfl, hb1⟩
  case round =>
    have hv9 := vb_len9 hm
    clear hown1 hb1 hz1 hs0
    obtain ⟨B, k, d, acc, q, rfl, rfl, hqm, hkl, hown, hacc, hbw⟩ := hrel
    have hwz : w.heap.size ≤ wr.heap.size := hbw.out.size
    have hvp := vb_pos q
    by_cases hq : q < 128
    · have hres : Hid (acc ++ [UInt8.ofNat q] = l ++ vb m) := by show _ = _; rw [← hacc.out, vb_small hq]
      have own1 := hown.out
      go_wp2_with (at_builtin; refine wpList_append_own _ rfl _ _ 26 rfl w.heap.size 5 i0 (.int .u8 0) 1 1 Tryz.underlying26 hi hz0 hz1 hz2 rfl (by decide) _ _ _ rfl (own1.alloc _) ⟨wr.heap.size, 0, none⟩ 1 1 [.int .u8 (q : Int)] rfl rfl (new_cell _ _ _) (one_int _) (by unfold maxLen; omega) (by omega) (by simp; omega) ?_)
      intro v' w2 hown' hgrow _
      rw [snoc_small _ _ hq] at hown'
      have hb2 : Below w.heap.size w w2 := ((hbw.out).alloc (by omega) _).grown hgrow (by simp; omega) (fun k hk => (own1.lt k hk).1)
      obtain ⟨A', c', rfl⟩ := own_form hown'
      have hown2 := Lib.hid hown'
      clear hown' hgrow
      go_wp2
      go_ret
      exact ⟨A', _, c', rfl, by rw [← hres.out]; exact hown2.out, hb2⟩
    · have hres : Hid ((acc ++ [UInt8.ofNat (128 + q % 128)]) ++ vb (q / 128) = l ++ vb m) := by
        show _ = _; rw [← hacc.out, vb_step hq]; simp
      have hl2 : (vb q).length = (vb (q / 128)).length + 1 := by rw [vb_step hq]; rfl
      have hl3 : k + 1 + (vb (q / 128)).length ≤ n + (vb m).length := by omega
      have own1 := hown.out
      have hu := or128 q
      clear hl2
      generalize UInt8.ofNat (128 + q % 128) = x at *
      go_wp2_with (at_builtin; refine wpList_append_own _ rfl _ _ 26 rfl w.heap.size 5 i0 (.int .u8 0) 1 1 Tryz.underlying26 hi hz0 hz1 hz2 rfl (by decide) _ _ _ rfl (own1.alloc _) ⟨wr.heap.size, 0, none⟩ 1 1 [.int .u8 (x.toNat : Int)] rfl rfl (new_cell _ _ _) (one_int _) (by unfold maxLen; omega) (by omega) (by simp; omega) ?_)
      intro v' w2 hown' hgrow _
      rw [← byteCells_snoc1] at hown'
      have hb2 : Below w.heap.size w w2 := ((hbw.out).alloc (by omega) _).grown hgrow (by simp; omega) (fun k hk => (own1.lt k hk).1)
      obtain ⟨A', c', rfl⟩ := own_form hown'
      have hown2 := Lib.hid hown'
      clear hown' hgrow hu
      go_wp2
      go_roundw
      case rel => exact ⟨A', k + 1, c', acc ++ [x], q / 128, rfl, by go_num, by omega, hl3, hown2, hres, hb2⟩
      case measure => simp [intOf]; omega
end Go.Proofs.YtdgbpmbknlhgmaaGreatDoor
set_option linter.unusedVariables false
set_option linter.unusedSimpArgs false
namespace Go.Proofs.YtdgbpmbknlhgmaaGreatDoor
open Go.RowKit Qt Vm

theorem snoc_big (l : List UInt8) (a : Nat) : Lib.byteCells l ++ [Value.int .u8 (128 + (a : Int) % 128)] = Lib.byteCells (l ++ [UInt8.ofNat (128 + a % 128)]) := by
  rw [byteCells_snoc1, UInt8.toNat_ofNat', Nat.mod_eq_of_lt (by omega)]
  congr 3
set_option maxHeartbeats 2000000 in
set_option maxRecDepth 100000 in
theorem refBytes_calls (m : Nat) (w : World) (hm : m < 9223372036854775808) :
    Calls Tryz.prog 38 #[.int .i64 (m : Int)] w fun e w' => ∃ B k d, e = .returned (.slice B k d) ∧ w'.ownsRow w.heap.size 5 1 (.slice B k d) k (Lib.byteCells (vb m)) ∧ Below w.heap.size w w' := by
  obtain ⟨i0, hi, hz0, hz1, hz2⟩ := info_parts bByte
  have h0 : decide ((m : Int) < 0) = false := by rw [decide_eq_false_iff_not]; omega
  go_enter Tryz.func38, Tryz.ntmps38
  go_wp2_with (fail)
  clear h0
  go_loopw [3, 0] (fun o i wr => ∃ (B : Option Addr) (k d : Nat) (acc : List UInt8) (q : Nat), o = .slice B k d ∧ i = .int .i64 (q : Int) ∧ q ≤ m ∧ k + (vb q).length ≤ (vb m).length ∧ Hid (wr.ownsRow w.heap.size 5 1 (.slice B k d) k (Lib.byteCells acc)) ∧ Hid (acc ++ vb q = vb m) ∧ Hid (Below w.heap.size w wr)) (fun _ i _ => (intOf i).toNat)
  case atStart => exact ⟨none, 0, 0, [], m, rfl, rfl, Nat.le_refl _, by omega, World.ownsRow_nil _ _ _ _, rfl, Below.refl _ _⟩
  case round =>
    have hv9 := vb_len9 hm
    obtain ⟨B, k, d, acc, q, rfl, rfl, hqm, hkl, hown, hacc, hbw⟩ := hrel
    have hwz : w.heap.size ≤ wr.heap.size := hbw.out.size
    have hvp := vb_pos q
    have own1 := hown.out
    by_cases hq : q < 128
    · have hres : Hid (acc ++ [UInt8.ofNat q] = vb m) := by show _ = _; rw [← hacc.out, vb_small hq]
      go_wp2_with (at_builtin; refine wpList_append_own _ rfl _ _ 26 rfl w.heap.size 5 i0 (.int .u8 0) 1 1 Tryz.underlying26 hi hz0 hz1 hz2 rfl (by decide) _ _ _ rfl (own1.alloc _) ⟨wr.heap.size, 0, none⟩ 1 1 [.int .u8 (q : Int)] rfl rfl (new_cell _ _ _) (one_int _) (by unfold maxLen; omega) (by omega) (by simp; omega) ?_)
      intro v' w2 hown' hgrow _
      rw [snoc_small _ _ hq] at hown'
      have hb2 : Below w.heap.size w w2 := ((hbw.out).alloc (by omega) _).grown hgrow (by simp; omega) (fun k hk => (own1.lt k hk).1)
      obtain ⟨A', c', rfl⟩ := own_form hown'
      have hown2 := Lib.hid hown'
      clear hown' hgrow
      go_wp2
      go_ret
      exact ⟨A', _, c', rfl, by rw [← hres.out]; exact hown2.out, hb2⟩
    · have hres : Hid ((acc ++ [UInt8.ofNat (128 + q % 128)]) ++ vb (q / 128) = vb m) := by
        show _ = _; rw [← hacc.out, vb_step hq]; simp
      have hl3 : k + 1 + (vb (q / 128)).length ≤ (vb m).length := by
        have hl2 : (vb q).length = (vb (q / 128)).length + 1 := by rw [vb_step hq]; rfl
        omega
      go_wp2_with (at_builtin; refine wpList_append_own _ rfl _ _ 26 rfl w.heap.size 5 i0 (.int .u8 0) 1 1 Tryz.underlying26 hi hz0 hz1 hz2 rfl (by decide) _ _ _ rfl (own1.alloc _) ⟨wr.heap.size, 0, none⟩ 1 1 [.int .u8 (128 + (q : Int) % 128)] rfl rfl (new_cell _ _ _) (one_int _) (by unfold maxLen; omega) (by omega) (by simp; omega) ?_)
      intro v' w2 hown' hgrow _
      rw [snoc_big] at hown'
      have hb2 : Below w.heap.size w w2 := ((hbw.out).alloc (by omega) _).grown hgrow (by simp; omega) (fun k hk => (own1.lt k hk).1)
      obtain ⟨A', c', rfl⟩ := own_form hown'
      have hown2 := Lib.hid hown'
      clear hown' hgrow
      go_wp2
      go_roundw
      case rel => exact ⟨A', k + 1, c', acc ++ [UInt8.ofNat (128 + q % 128)], q / 128, rfl, by go_num, by omega, hl3, hown2, hres, hb2⟩
      case measure => simp [intOf]; omega

theorem take_next8 (ws : List UInt8) (k : Nat) (h : k < ws.length) : ws.take (k + 1) = ws.take k ++ [ws.getD k 0] := by
  rw [List.take_add_one, List.getElem?_eq_getElem h, Option.toList_some, List.getD_eq_getElem?_getD, List.getElem?_eq_getElem h, Option.getD_some]
set_option maxHeartbeats 2000000 in
theorem same_calls (A : Option Addr) (n c : Nat) (xs : List UInt8) (B : Option Addr) (m d : Nat) (ys : List UInt8) (w : World) (hn : n ≤ 1000000) (hm : m ≤ 1000000) (h1 : BAt w A n xs) (h2 : BAt w B m ys) :
    Calls Tryz.prog 14 #[.slice A n c, .slice B m d] w fun e w' => e = .returned (.bool (decide (xs = ys))) ∧ Below w.heap.size w w' := by
  have l1 := h1.len
  have l2 := h2.len
  by_cases hnm : n = m
  · subst hnm
    have H1 := Lib.hid h1
    have H2 := Lib.hid h2
    clear h1 h2
    go_enter Tryz.func14, Tryz.ntmps14
    go_wp2
    go_loopw [5] (fun i wr => ∃ k : Nat, k ≤ n ∧ i = .int .i64 (k : Int) ∧ Hid (xs.take k = ys.take k) ∧ Hid (Below w.heap.size w wr)) (fun i _ => n - (intOf i).toNat)
    case atStart => exact ⟨0, by omega, rfl, rfl, Below.refl _ _⟩
    case round =>
      obtain ⟨k, hk, rfl, hq, hb⟩ := hrel
      by_cases hlt : k < n
      · obtain ⟨b1, o1, rfl, hb1, hc1⟩ := (H1.out.below hb.out).at_ (by omega)
        obtain ⟨b2, o2, rfl, hb2, hc2⟩ := (H2.out.below hb.out).at_ (by omega)
        have g1 := hc1 k hlt
        have g2 := hc2 k hlt
        have t1 := Lib.hid (take_next8 xs k (by omega))
        have t2 := Lib.hid (take_next8 ys k (by omega))
        have hne : Hid (xs.getD k 0 ≠ ys.getD k 0 → xs ≠ ys) := by
          show _ → _
          intro h e; exact h (by rw [e])
        clear hc1 hc2
        generalize xs.getD k 0 = x at *
        generalize ys.getD k 0 = y at *
        by_cases he : x = y
        · subst he
          go_wp2
          go_quiet (fail)
          go_wp2
          go_roundw
          case rel => exact ⟨k + 1, by omega, by go_num, (by show _ = _; rw [t1.out, t2.out, hq.out]), below_drewN hb.out _⟩
          case measure => simp [intOf]; omega
        · have hs : ((x.toNat : Int) == (y.toNat : Int)) = false := by
            rw [beq_eq_false_iff_ne]; intro e; exact he (UInt8.toNat_inj.1 (by omega))
          have hf := Lib.hid (hne.out he)
          clear he hne
          go_wp2
          go_quiet (fail)
          go_wp2
          go_ret
          exact ⟨ret_bool (decide_eq_false hf.out).symm, below_drewN hb.out _⟩
      · have hf : Hid (xs = ys) := by
          have := hq.out
          rw [List.take_of_length_le (by omega), List.take_of_length_le (by omega)] at this
          exact this
        go_wp2
        go_ret
        exact ⟨ret_bool (decide_eq_true hf.out).symm, hb.out⟩
  · have hf : Hid (xs ≠ ys) := by
      show _ ≠ _
      intro e; apply hnm; rw [← l1, ← l2, e]
    have t : ((n : Int) == (m : Int)) = false := by rw [beq_eq_false_iff_ne]; omega
    go_enter Tryz.func14, Tryz.ntmps14
    go_wp2
    go_ret
    exact ⟨ret_bool (decide_eq_false hf.out).symm, Below.refl _ _⟩

set_option maxHeartbeats 1000000 in
set_option maxRecDepth 100000 in
theorem refText_calls (s : ByteArray) (w : World) (hs : s.size ≤ 1000000) :
    Calls Tryz.prog 40 #[.string s] w fun e w' => ∃ B k d, e = .returned (.slice B k d) ∧ w'.ownsRow w.heap.size 5 1 (.slice B k d) k (Lib.byteCells ((Fv.txt (toL s)).bytes)) ∧ Below w.heap.size w w' := by
  obtain ⟨i0, hi, hz0, hz1, hz2⟩ := info_parts bByte
  have H := Lib.hid (refBytes_calls s.size w (by omega))
  have hv9 := vb_len9 (n := s.size) (by omega)
  go_enter Tryz.func40, Tryz.ntmps40
  go_wp2_with (fail)
  refine H.out.mono ?_
  rintro e w1 ⟨B, k, d, rfl, hown, hb1⟩
  have hk : k = (vb s.size).length := by have := hown.1; rw [Lib.byteCells_length] at this; omega
  have hk9 : k ≤ 9 := by omega
  have hb1' := Lib.hid hb1
  clear hk H hb1
  go_wp2_with (at_builtin; refine Lib.wpList_append_own_string _ rfl _ _ 26 9 rfl w.heap.size 5 i0 Tryz.underlying26 Tryz.underlying9 hi hz0 hz1 hz2 _ _ _ rfl hown s rfl (by unfold maxLen; omega) (by omega) hb1'.out.size ?_)
  intro v' w2 hown' hgrow _
  have hb2 : Below w.heap.size w w2 := hb1'.out.grown hgrow hb1'.out.size (fun k hk => (hown.lt k hk).1)
  obtain ⟨A', c', rfl⟩ := own_form hown'
  have hown2 : Hid (w2.ownsRow w.heap.size 5 1 (.slice A' (k + s.size) c') (k + s.size) (Lib.byteCells ((Fv.txt (toL s)).bytes))) := by
    show World.ownsRow _ _ _ _ _ _ _
    have e : Lib.byteCells ((Fv.txt (toL s)).bytes) = Lib.byteCells (vb s.size) ++ Lib.strCells s := by
      show Lib.byteCells (vb (toL s).length ++ toL s) = _
      rw [toL_size, Lib.byteCells_append]; rfl
    rw [e]; exact hown'
  clear hown' hgrow hown
  go_wp2
  go_ret
  exact ⟨A', _, c', rfl, hown2.out, hb2⟩

end Go.Proofs.YtdgbpmbknlhgmaaGreatDoor
set_option linter.unusedVariables false
set_option linter.unusedSimpArgs false
namespace Go.Proofs.YtdgbpmbknlhgmaaGreatDoor
open Go.RowKit Qt Vm

/-- a writer at a block, and what was put. -/
def WrAt (w : World) (g : Nat) (l : List UInt8) : Prop := ∃ A n c, Blk w g 39 #[.slice A n c] ∧ BAt w A n l
theorem WrAt.lt {w : World} {g : Nat} {l : List UInt8} (h : WrAt w g l) : g < w.heap.size := h.elim fun _ h => h.elim fun _ h => h.elim fun _ h => h.1.lt
theorem WrAt.below {w w' : World} {g : Nat} {l : List UInt8} (h : WrAt w g l) (hb : Below w.heap.size w w') : WrAt w' g l := by
  obtain ⟨A, n, c, h1, h2⟩ := h
  exact ⟨A, n, c, h1.call hb, h2.below hb⟩
theorem WrAt.alloc {w : World} {g : Nat} {l : List UInt8} (h : WrAt w g l) (o : Obj) : WrAt (w.alloc o) g l := h.below ((Below.refl _ _).alloc (Nat.le_refl _) o)
theorem WrAt.new (w : World) : WrAt (w.alloc (.cells #[.slice none 0 0] 39)) w.heap.size [] := ⟨none, 0, 0, Blk.new _ _ _, Reads.none_⟩
/-- behind a store of a row of the call's own. -/
theorem WrAt.store {w0 w : World} {g : Nat} {v : Value} {A : Option Addr} {k d : Nat} {l : List UInt8} (hB : Blk w g 39 #[v]) (hg : g < w0.heap.size) (h : w.ownsRow w0.heap.size 5 1 (.slice A k d) k (Lib.byteCells l)) :
    WrAt (w.setCell ⟨g, 0, none⟩ (.slice A k d)) g l := by
  refine ⟨A, k, d, hB.set_ 0 _, ?_⟩
  refine ⟨(BAt.own h).1, fun hk => ?_⟩
  obtain ⟨ad, e, hb, hc⟩ := (BAt.own h).2 hk
  subst e
  have hlt := (h.lt ad.block rfl).1
  refine ⟨ad, rfl, by simpa [World.setCell] using hb, fun j u hj => ?_⟩
  rw [← hc j u hj]
  refine World.cell?_setCell_other w _ _ _ (fun e => ?_)
  have := congrArg Addr.block e
  rw [block_of_add] at this
  simp only at this
  omega
theorem writer_grown {w w1 : World} {g : Nat} (hb : Below w.heap.size w w1) (u : Value) : w.grownBy (w1.setCell ⟨g, 0, none⟩ u) (some g) := only_setCell (only_of_below hb (some g)) (.inl rfl) u

set_option maxHeartbeats 1000000 in
set_option maxRecDepth 100000 in
theorem number_calls (g : Nat) (l : List UInt8) (x : Int) (w : World) (h0 : 0 ≤ x) (h1 : x < 9223372036854775808) (hl : l.length ≤ 1000000) (h : WrAt w g l) :
    Calls Tryz.prog 44 #[.pointer (some ⟨g, 0, none⟩), .int .i64 x] w fun e w' => e = .returned (.tuple #[]) ∧ WrAt w' g (l ++ vb x.toNat) ∧ w.grownBy w' (some g) := by
  obtain ⟨m, rfl⟩ := Int.eq_ofNat_of_zero_le h0
  rw [Int.toNat_natCast]
  have hlt := h.lt
  obtain ⟨A, n, c, hB, hA⟩ := h
  have hln := hA.len
  have H := Lib.hid (put_calls A n c l m w (by omega) (by omega) hA)
  obtain ⟨kc, kf, _⟩ := hB.facts
  have hB' := Lib.hid hB
  have hg := Lib.hid hlt
  clear hA hB hln hlt
  go_enter Tryz.func44, Tryz.ntmps44
  go_wp2_with (fail)
  refine H.out.mono ?_
  rintro e w1 ⟨B, k, d, rfl, hown, hb1⟩
  have hB1 := hB'.out.call hb1
  clear kc kf
  obtain ⟨kc, kf, hlt⟩ := hB1.facts
  have hown' := Lib.hid hown
  have hb1' := Lib.hid hb1
  have hB1' := Lib.hid hB1
  clear hown hb1 hB1 H
  go_wp2
  go_end0
  exact ⟨rfl, WrAt.store hB1'.out hg.out hown'.out, writer_grown hb1'.out _⟩

set_option maxHeartbeats 1000000 in
set_option maxRecDepth 100000 in
theorem wraw_calls (g : Nat) (l : List UInt8) (A2 : Option Addr) (n2 c2 : Nat) (s : List UInt8) (w : World) (hl : l.length ≤ 900000) (hs : n2 ≤ 90000) (h : WrAt w g l) (h2 : BAt w A2 n2 s) :
    Calls Tryz.prog 116 #[.pointer (some ⟨g, 0, none⟩), .slice A2 n2 c2] w fun e w' => e = .returned (.tuple #[]) ∧ WrAt w' g (l ++ (Fv.txt s).bytes) ∧ w.grownBy w' (some g) := by
  obtain ⟨i0, hi, hz0, hz1, hz2⟩ := info_parts bByte
  have hlt := h.lt
  have hsl := h2.len
  obtain ⟨A, n, c, hB, hA⟩ := h
  have hln := hA.len
  have hv9 := vb_len9 (n := n2) (by omega)
  have H := Lib.hid (put_calls A n c l n2 w (by omega) (by omega) hA)
  obtain ⟨kc, kf, _⟩ := hB.facts
  have hB' := Lib.hid hB
  have hg := Lib.hid hlt
  have h2' := Lib.hid h2
  have hsl' := Lib.hid hsl
  clear hA hB hln hlt h2 hsl
  go_enter Tryz.func116, Tryz.ntmps116
  go_wp2_with (fail)
  refine H.out.mono ?_
  rintro e w1 ⟨B, k, d, rfl, hown, hb1⟩
  have hB1 := hB'.out.call hb1
  clear kc kf
  obtain ⟨kc, kf, hlt⟩ := hB1.facts
  have hk : k ≤ 900009 := by have := hown.1; rw [Lib.byteCells_length, List.length_append] at this; omega
  have hown' := Lib.hid hown
  have hb1' := Lib.hid hb1
  have hB1' := Lib.hid hB1
  clear hown hb1 hB1 H
  go_wp2_with (at_builtin; refine wpList_append_any _ rfl _ _ 26 rfl w.heap.size 5 i0 _ 1 1 Tryz.underlying26 hi hz0 hz1 hz2 rfl (by omega) (.slice B k d) k _ rfl hown'.out w1.heap.size A2 n2 c2 _ rfl (h2'.out.below hb1'.out) (bytes_one s) (by simp only [maxLen]; omega) (by omega) hb1'.out.size ?_)
  intro v' w2 hown2 hgrow _
  have hb2 : Hid (Below w.heap.size w w2) := hb1'.out.grown hgrow hb1'.out.size (fun k hk => (hown'.out.lt k hk).1)
  have hB2 : Blk w2 g 39 #[.slice A n c] := hB'.out.call hb2.out
  clear kc kf hlt
  obtain ⟨kc, kf, hlt⟩ := hB2.facts
  obtain ⟨A', c', rfl⟩ := own_form hown2
  have hown3 : Hid (w2.ownsRow w.heap.size 5 1 (.slice A' (k + n2) c') (k + n2) (Lib.byteCells (l ++ (Fv.txt s).bytes))) := by
    show World.ownsRow _ _ _ _ _ _ _
    have e : Lib.byteCells (l ++ (Fv.txt s).bytes) = Lib.byteCells (l ++ vb n2) ++ Lib.byteCells s := by
      show Lib.byteCells (l ++ (vb s.length ++ s)) = _
      rw [hsl'.out, ← Lib.byteCells_append, List.append_assoc]
    rw [e]; exact hown2
  have hB2' := Lib.hid hB2
  clear hown2 hgrow hB2
  go_wp2
  go_end0
  exact ⟨rfl, WrAt.store hB2'.out hg.out hown3.out, writer_grown hb2.out _⟩

set_option maxHeartbeats 1000000 in
set_option maxRecDepth 100000 in
theorem wtext_calls (g : Nat) (l : List UInt8) (s : ByteArray) (w : World) (hl : l.length ≤ 900000) (hs : s.size ≤ 90000) (h : WrAt w g l) :
    Calls Tryz.prog 91 #[.pointer (some ⟨g, 0, none⟩), .string s] w fun e w' => e = .returned (.tuple #[]) ∧ WrAt w' g (l ++ (Fv.txt (toL s)).bytes) ∧ w.grownBy w' (some g) := by
  obtain ⟨cap, W2, hcv, hb2, hlt, hcells⟩ := to_bytes w s
  have hlen := toL_size s
  have hat : BAt W2 (some ⟨w.heap.size, 0, none⟩) s.size (toL s) := by
    refine ⟨by rw [Lib.byteCells_length]; omega, fun hn => ⟨_, rfl, hlt, fun j u hj => ?_⟩⟩
    have hj2 : j < s.size := by
      rcases Nat.lt_or_ge j s.size with h | h
      · exact h
      · rw [List.getElem?_eq_none (by rw [Lib.byteCells_length]; omega)] at hj; cases hj
    rw [byteCells_at _ _ (by omega)] at hj
    cases hj
    have ha : Addr.add ⟨w.heap.size, 0, none⟩ j = ⟨w.heap.size, j, none⟩ := by unfold Addr.add; split <;> simp_all
    rw [ha]; exact hcells j hj2
  have H := Lib.hid (wraw_calls g l (some ⟨w.heap.size, 0, none⟩) s.size cap (toL s) W2 hl hs (h.below hb2) hat)
  have hb2' := Lib.hid hb2
  have hg := Lib.hid h.lt
  clear hcells hat h hb2 hlt hlen
  go_enter Tryz.func91, Tryz.ntmps91
  go_wp2_with (fail)
  refine H.out.mono ?_
  rintro e w3 ⟨rfl, h3, hg3⟩
  go_wp2_with (fail)
  go_end0
  exact ⟨rfl, h3, ⟨hg3.os.trans hb2'.out.os, hg3.tape.trans hb2'.out.tape, hg3.output.trans hb2'.out.output, Nat.le_trans hb2'.out.size hg3.size, fun k hk hne => (hg3.block k (Nat.lt_of_lt_of_le hk hb2'.out.size) hne).trans (hb2'.out.block k hk)⟩⟩

set_option maxHeartbeats 1000000 in
set_option maxRecDepth 100000 in
theorem wbytes_calls (g : Nat) (l : List UInt8) (w : World) (hl : l.length ≤ 1000000) (h : WrAt w g l) :
    Calls Tryz.prog 20 #[.pointer (some ⟨g, 0, none⟩)] w fun e w' => ∃ B k d, e = .returned (.slice B k d) ∧ w'.ownsRow w.heap.size 5 1 (.slice B k d) k (Lib.byteCells l) ∧ Below w.heap.size w w' := by
  obtain ⟨A, n, c, hB, hA⟩ := h
  have hln := hA.len
  have H := Lib.hid (clone_calls A n c l w (by omega) hA)
  obtain ⟨kc, kf, hlt⟩ := hB.facts
  clear hA hB hln
  go_enter Tryz.func20, Tryz.ntmps20
  go_wp2_with (fail)
  refine H.out.mono ?_
  rintro e w1 ⟨B, d, rfl, hown, hb1⟩
  have hown' := Lib.hid hown
  clear hown
  go_wp2_with (fail)
  go_ret
  exact ⟨B, n, d, rfl, hown'.out, hb1⟩
end Go.Proofs.YtdgbpmbknlhgmaaGreatDoor
