/-
The walks through slices.Clone, varint.Put, changeoverref01.Bytes, changeoverref01.Same.
-/
import Derived.Test.YtdgbpmbknlhgmaaDoorTextsB
import Derived.Test.YtdgbpmbknlhgmaaDoorVarMath
import Derived.Lib.SliceRun
set_option linter.unusedVariables false
set_option linter.unusedSimpArgs false
namespace Go.Proofs.YtdgbpmbknlhgmaaDoor
open Go.RowKit Qt Vm

/-- a slice that reads as these bytes. -/
def BAt (w : World) (A : Option Addr) (n : Nat) (l : List UInt8) : Prop := Reads w w.heap.size 1 A n (Lib.byteCells l)
theorem BAt.len {w : World} {A : Option Addr} {n : Nat} {l : List UInt8} (h : BAt w A n l) : l.length = n := by have := h.1; rw [Lib.byteCells_length] at this; omega
theorem BAt.below {w w' : World} {A : Option Addr} {n : Nat} {l : List UInt8} (h : BAt w A n l) (hb : Below w.heap.size w w') : BAt w' A n l := (Reads.below h hb).more hb.size
theorem BAt.alloc {w : World} {A : Option Addr} {n : Nat} {l : List UInt8} (h : BAt w A n l) (o : Obj) : BAt (w.alloc o) A n l := h.below ((Below.refl _ _).alloc (Nat.le_refl _) o)
theorem BAt.own {w : World} {base : Nat} {e : TypeId} {n c : Nat} {A : Option Addr} {l : List UInt8} (h : w.ownsRow base e 1 (.slice A n c) n (Lib.byteCells l)) : BAt w A n l := Reads.of_own h
theorem byteCells_at (l : List UInt8) (k : Nat) (h : k < l.length) : (Lib.byteCells l)[k]? = some (.int .u8 ((l.getD k 0).toNat : Int)) := by
  unfold Lib.byteCells
  rw [List.getElem?_map, List.getElem?_eq_getElem h, List.getD_eq_getElem?_getD, List.getElem?_eq_getElem h]; rfl
theorem BAt.at_ {w : World} {A : Option Addr} {n : Nat} {l : List UInt8} (h : BAt w A n l) (hn : 0 < n) :
    ∃ b off, A = some ⟨b, off, none⟩ ∧ b < w.heap.size ∧ ∀ k, k < n → w.cell? ⟨b, off + k, none⟩ = some (.int .u8 ((l.getD k 0).toNat : Int)) := by
  obtain ⟨ad, e, hb, hc⟩ := h.2 hn
  obtain ⟨b, off, spot⟩ := ad
  have hspot : spot = none := by
    have g0 := hc _ _ (byteCells_at l 0 (by rw [h.len]; omega))
    exact World.cell?_spot g0
  subst hspot
  have ha : ∀ j, Addr.add ⟨b, off, none⟩ j = ⟨b, off + j, none⟩ := fun j => by unfold Addr.add; split <;> simp_all
  refine ⟨b, off, e, hb, fun k hk => ?_⟩
  have g := hc _ _ (byteCells_at l k (by rw [h.len]; omega))
  rw [ha] at g
  exact g
theorem bytes_one (l : List UInt8) : ∀ u ∈ Lib.byteCells l, u.oneCell' = true := by
  intro u hu
  obtain ⟨b, _, rfl⟩ := List.mem_map.1 hu
  rfl
theorem own_new (w : World) (e : TypeId) : (w.alloc (.cells #[] e)).ownsRow w.heap.size e 1 (.slice (some ⟨w.heap.size, 0, none⟩) 0 0) 0 [] :=
  ⟨rfl, .inr ⟨w.heap.size, 0, #[], rfl, Nat.le_refl _, heap_alloc_new w _, Nat.le_refl _, by decide, rfl, rfl⟩⟩
theorem own_form {w : World} {base : Nat} {e : TypeId} {size n : Nat} {v : Value} {xs : List Value} (h : w.ownsRow base e size v n xs) : ∃ A c, v = .slice A n c := by
  rcases h.2 with ⟨rfl, rfl⟩ | ⟨g, cap, cur, rfl, _⟩
  · exact ⟨none, 0, rfl⟩
  · exact ⟨_, _, rfl⟩

set_option maxHeartbeats 1000000 in
theorem clone_calls (A : Option Addr) (n c : Nat) (l : List UInt8) (w : World) (hn : n ≤ 140737488351232) (h : BAt w A n l) :
    Calls Tryd.prog 76 #[.slice A n c] w fun e w' => ∃ B d, e = .returned (.slice B n d) ∧ w'.ownsRow w.heap.size 5 1 (.slice B n d) n (Lib.byteCells l) ∧ Below w.heap.size w w' := by
  obtain ⟨i0, hi, hz0, hz1, hz2⟩ := info_parts bByte
  have heq := fun (w : World) => Lib.run_eql_slice_nil (P := Tryd.prog) w 36 5 A n c 0 0 Tryd.underlying36
  have hlen := h.len
  rcases A with _ | ad
  · have hn0 : n = 0 := by
      rcases Nat.eq_zero_or_pos n with h0 | h0
      · exact h0
      · obtain ⟨ad, h1, _⟩ := h.2 h0; cases h1
    subst hn0
    have hl : l = [] := List.eq_nil_of_length_eq_zero hlen
    subst hl
    clear h
    have heq : ∀ w : World, (binOp .eql 36 (.slice none 0 c) (.slice none 0 0)).run Tryd.prog w = .ok (.bool true) w := heq
    go_enter Tryd.func76, Tryd.ntmps76
    go_wp2
    go_ret
    exact ⟨none, 0, rfl, World.ownsRow_nil _ _ _ _, Below.refl _ _⟩
  · have heq : ∀ w : World, (binOp .eql 36 (.slice (some ad) n c) (.slice none 0 0)).run Tryd.prog w = .ok (.bool false) w := heq
    have H := Lib.hid h
    have hlen' := Lib.hid hlen
    clear h hlen
    go_enter Tryd.func76, Tryd.ntmps76
    go_wp2_with (at_builtin; refine wpList_append_any _ rfl _ _ 36 rfl w.heap.size 5 i0 _ 1 1 Tryd.underlying36 hi hz0 hz1 hz2 rfl (by omega) (.slice (some ⟨w.heap.size, 0, none⟩) 0 0) 0 [] rfl (own_new w _) w.heap.size (some ad) n c _ rfl (Reads.alloc H.out (Nat.le_refl _) _) (bytes_one l) (by simp only [maxLen]; omega) (by omega) (by simp) ?_)
    intro v' w2 hown' hgrow _
    have hb2 : Below w.heap.size w w2 := ((Below.refl _ _).alloc (Nat.le_refl _) _).grown hgrow (by simp) (by simp [Value.ownBlock])
    obtain ⟨B, d, rfl⟩ := own_form hown'
    have hown2 := Lib.hid hown'
    clear hown' hgrow
    go_wp2
    go_ret
    exact ⟨B, d, rfl, hown2.out, hb2⟩

theorem or128 (a : Nat) : bits .or .u8 ((a : Int) % 256) 128 = (((UInt8.ofNat (128 + a % 128)).toNat : Nat) : Int) := by
  have : ∀ x : Nat, x < 256 → bits .or .u8 (x : Int) 128 = (((UInt8.ofNat (128 + x % 128)).toNat : Nat) : Int) := by decide +kernel
  have h := this (a % 256) (Nat.mod_lt _ (by omega))
  rw [show a % 256 % 128 = a % 128 by omega, show ((a % 256 : Nat) : Int) = (a : Int) % 256 by omega] at h
  exact h
theorem snoc_small (l : List UInt8) (a : Nat) (h : a < 128) : Lib.byteCells l ++ [Value.int .u8 (a : Int)] = Lib.byteCells (l ++ [UInt8.ofNat a]) := by
  rw [byteCells_snoc1, UInt8.toNat_ofNat', Nat.mod_eq_of_lt (by omega)]

set_option maxHeartbeats 4000000 in
set_option maxRecDepth 100000 in
theorem put_calls (A : Option Addr) (n c : Nat) (l : List UInt8) (m : Nat) (w : World) (hn : n ≤ 1000000) (hm : m < 9223372036854775808) (h : BAt w A n l) :
    Calls Tryd.prog 108 #[.slice A n c, .int .i64 (m : Int)] w fun e w' => ∃ B k d, e = .returned (.slice B k d) ∧ w'.ownsRow w.heap.size 5 1 (.slice B k d) k (Lib.byteCells (l ++ vb m)) ∧ Below w.heap.size w w' := by
  obtain ⟨i0, hi, hz0, hz1, hz2⟩ := info_parts bByte
  have H := Lib.hid (clone_calls A n c l w (by omega) h)
  have hlen := Lib.hid h.len
  clear h
  go_enter Tryd.func108, Tryd.ntmps108
  go_wp2_with (fail)
  refine H.out.mono ?_
  rintro e w1 ⟨B, d, rfl, hown, hb1⟩
  have hown1 := Lib.hid hown
  clear hown H
  go_wp2_with (fail)
  have hz1 := hb1.size
  have hs0 : Hid (l ++ vb m = l ++ vb m) := rfl
  go_loopw [5, 1] (fun o i wr => ∃ (B : Option Addr) (k d : Nat) (acc : List UInt8) (q : Nat), o = .slice B k d ∧ i = .int .i64 (q : Int) ∧ q ≤ m ∧ k + (vb q).length ≤ n + (vb m).length ∧ Hid (wr.ownsRow w.heap.size 5 1 (.slice B k d) k (Lib.byteCells acc)) ∧ Hid (acc ++ vb q = l ++ vb m) ∧ Hid (Below w.heap.size w wr)) (fun _ i _ => (intOf i).toNat)
  case atStart => exact ⟨B, n, d, l, m, rfl, rfl, Nat.le_refl _, Nat.le_refl _, hown1.out, rfl, hb1⟩
  case round =>
    have hv9 := vb_len9 hm
    clear hown1 hb1 hz1 hs0
    obtain ⟨B, k, d, acc, q, rfl, rfl, hqm, hkl, hown, hacc, hbw⟩ := hrel
    have hwz : w.heap.size ≤ wr.heap.size := hbw.out.size
    have hvp := vb_pos q
    by_cases hq : q < 128
    · have hres : Hid (acc ++ [UInt8.ofNat q] = l ++ vb m) := by show _ = _; rw [← hacc.out, vb_small hq]
      have own1 := hown.out
      go_wp2_with (at_builtin; refine wpList_append_own _ rfl _ _ 36 rfl w.heap.size 5 i0 (.int .u8 0) 1 1 Tryd.underlying36 hi hz0 hz1 hz2 rfl (by decide) _ _ _ rfl (own1.alloc _) ⟨wr.heap.size, 0, none⟩ 1 1 [.int .u8 (q : Int)] rfl rfl (new_cell _ _ _) (one_int _) (by unfold maxLen; omega) (by omega) (by simp; omega) ?_)
      intro v' w2 hown' hgrow _
      rw [snoc_small _ _ hq] at hown'
      have hb2 : Below w.heap.size w w2 := ((hbw.out).alloc (by omega) _).grown hgrow (by simp; omega) (fun k hk => (own1.lt k hk).1)
      obtain ⟨A', c', rfl⟩ := own_form hown'
      have hown2 := Lib.hid hown'
      clear hown' hgrow
      go_wp2
      go_ret
      exact ⟨A', _, c', rfl, by rw [← hres.out]; exact hown2.out, hb2⟩
    · have hres : Hid ((acc ++ [UInt8.ofNat (128 + q % 128)]) ++ vb (q / 128) = l ++ vb m) := by
        show _ = _; rw [← hacc.out, vb_step hq]; simp
      have hl2 : (vb q).length = (vb (q / 128)).length + 1 := by rw [vb_step hq]; rfl
      have hl3 : k + 1 + (vb (q / 128)).length ≤ n + (vb m).length := by omega
      have own1 := hown.out
      have hu := or128 q
      clear hl2
      generalize UInt8.ofNat (128 + q % 128) = x at *
      go_wp2_with (at_builtin; refine wpList_append_own _ rfl _ _ 36 rfl w.heap.size 5 i0 (.int .u8 0) 1 1 Tryd.underlying36 hi hz0 hz1 hz2 rfl (by decide) _ _ _ rfl (own1.alloc _) ⟨wr.heap.size, 0, none⟩ 1 1 [.int .u8 (x.toNat : Int)] rfl rfl (new_cell _ _ _) (one_int _) (by unfold maxLen; omega) (by omega) (by simp; omega) ?_)
      intro v' w2 hown' hgrow _
      rw [← byteCells_snoc1] at hown'
      have hb2 : Below w.heap.size w w2 := ((hbw.out).alloc (by omega) _).grown hgrow (by simp; omega) (fun k hk => (own1.lt k hk).1)
      obtain ⟨A', c', rfl⟩ := own_form hown'
      have hown2 := Lib.hid hown'
      clear hown' hgrow hu
      go_wp2
      go_roundw
      case rel => exact ⟨A', k + 1, c', acc ++ [x], q / 128, rfl, by go_num, by omega, hl3, hown2, hres, hb2⟩
      case measure => simp [intOf]; omega
end Go.Proofs.YtdgbpmbknlhgmaaDoor
