/-
The walks through package crc's inner functions: what they return is the register of the plain text CrcMath.
-/
import Derived.Test.YtggimkndpmiimaaDoorBase
import Derived.Test.YtggimkndpmiimaaDoorCrcMath
import Derived.WalkKit
import Derived.WalkLawsBesides
import Derived.WalkSpells
import Derived.Outline
set_option linter.unusedVariables false
set_option linter.unusedSimpArgs false
namespace Go.Proofs.YtggimkndpmiimaaDoor
open Go.RowKit

theorem ofInt_u32 (a : Nat) (ha : a < 4294967296) : (BitVec.ofInt 32 (a : Int)).toNat = a := by
  rw [BitVec.ofInt_natCast, BitVec.toNat_ofNat]; exact Nat.mod_eq_of_lt (by omega)
theorem u32_and_nat (a b : Nat) (ha : a < 4294967296) (hb : b < 4294967296) : bits .and .u32 (a : Int) (b : Int) = ((a &&& b : Nat) : Int) := by
  have hx : a &&& b < 2 ^ 32 := Nat.and_lt_two_pow _ (by omega)
  show IntKind.u32.wrap ((BitVec.ofInt 32 (a : Int) &&& BitVec.ofInt 32 (b : Int)).toNat : Int) = _
  rw [BitVec.toNat_and, ofInt_u32 a ha, ofInt_u32 b hb, IntKind.wrap_u32]
  omega
theorem u32_xor_nat (a b : Nat) (ha : a < 4294967296) (hb : b < 4294967296) : bits .xor .u32 (a : Int) (b : Int) = ((a ^^^ b : Nat) : Int) := by
  have hx : a ^^^ b < 2 ^ 32 := Nat.xor_lt_two_pow (by omega) (by omega)
  show IntKind.u32.wrap ((BitVec.ofInt 32 (a : Int) ^^^ BitVec.ofInt 32 (b : Int)).toNat : Int) = _
  rw [BitVec.toNat_xor, ofInt_u32 a ha, ofInt_u32 b hb, IntKind.wrap_u32]
  omega
theorem u32_and15 (a : Nat) (ha : a < 4294967296) : bits .and .u32 (a : Int) 15 = ((a % 16 : Nat) : Int) := by
  have h := u32_and_nat a 15 ha (by omega)
  rw [show ((15 : Nat) : Int) = 15 from rfl] at h
  rw [h, show a &&& 15 = a % 16 from Nat.and_two_pow_sub_one_eq_mod a 4]

/-- the table of crc, as the start lays it. -/
def CrcTab (w : World) : Prop := ∀ i, i < 16 → w.cell? ⟨0, i, none⟩ = some (.int .u32 ((Crc.tab.getD i 0 : Nat) : Int))
theorem CrcTab.below {B : Nat} {w w' : World} (h : CrcTab w) (hb : Below B w w') (hB : 0 < B) : CrcTab w' := fun i hi => (hb.cell (p := ⟨0, i, none⟩) hB).trans (h i hi)

theorem tab_lt (i : Nat) : Crc.tab.getD i 0 < 4294967296 := by
  by_cases h : i < 16
  · have : ∀ j, j < 16 → Crc.tab.getD j 0 < 4294967296 := by decide
    exact this i h
  · rw [List.getD_eq_getElem?_getD, List.getElem?_eq_none (by show 16 ≤ i; omega)]; decide

theorem half_step (w : World) (ht : CrcTab w) (x : Nat) (hx : x < 4294967296) :
    ∃ i t y : Nat, bits .and .u32 (x : Int) 15 = (i : Int) ∧ i < 16 ∧ w.cell? ⟨0, i, none⟩ = some (.int .u32 (t : Int)) ∧ bits .xor .u32 ((x : Int) / 16) (t : Int) = (y : Int) ∧ y < 4294967296 ∧ Hid (y = Crc.half x) := by
  refine ⟨x % 16, Crc.tab.getD (x % 16) 0, Crc.half x, u32_and15 x hx, by omega, ht _ (by omega), ?_, ?_, rfl⟩
  · have := u32_xor_nat (x / 16) (Crc.tab.getD (x % 16) 0) (by omega) (tab_lt _)
    rw [show ((x / 16 : Nat) : Int) = (x : Int) / 16 by omega] at this
    exact this
  · exact Nat.xor_lt_two_pow (n := 32) (by omega) (tab_lt _)

set_option maxHeartbeats 400000 in
theorem turn_calls (r c : Nat) (w : World) (hr : r < 4294967296) (hc : c < 256) (ht : CrcTab w) :
    Calls Tryd.prog 26 #[.int .u32 (r : Int), .int .u8 (c : Int)] w fun e w' => e = .returned (.int .u32 ((Crc.turn r c : Nat) : Int)) ∧ w = w' := by
  have e0 := u32_xor_nat r c hr (by omega)
  have hx : r ^^^ c < 4294967296 := Nat.xor_lt_two_pow (n := 32) (by omega) (by omega)
  have hfin : Hid (Crc.turn r c = Crc.half (Crc.half (r ^^^ c))) := Crc.turn_half r c
  generalize r ^^^ c = x at e0 hx hfin
  obtain ⟨i, t, y, e1, hi, c1, e2, hy, hyd⟩ := half_step w ht x hx
  obtain ⟨j, u, z, e3, hj, c2, e4, hz, hzd⟩ := half_step w ht y hy
  have ht' := Lib.hid ht
  clear ht
  go_enter Tryd.func26, Tryd.ntmps26
  go_wp2
  go_ret
  exact ⟨ret_int (by rw [hfin.out, ← hyd.out, ← hzd.out]), rfl⟩

theorem max_xor (r : Nat) (hr : r < 4294967296) : bits .xor .u32 IntKind.u32.max (r : Int) = ((Crc.full ^^^ r : Nat) : Int) :=
  u32_xor_nat 4294967295 r (by omega) hr
theorem not_u32 (r : Nat) (hr : r < 4294967296) : bits .xor .u32 (r : Int) 4294967295 = ((Crc.full ^^^ r : Nat) : Int) := by
  have h := u32_xor_nat r 4294967295 hr (by omega)
  rw [show ((4294967295 : Nat) : Int) = 4294967295 from rfl] at h
  rw [h, Nat.xor_comm]; rfl

/-- a slice of bytes. -/
def BytesAt (w : World) (A : Option Addr) (n : Nat) (l : List UInt8) : Prop := Reads w w.heap.size 1 A n (l.map fun b => Value.int .u8 (b.toNat : Int))
theorem BytesAt.len {w : World} {A : Option Addr} {n : Nat} {l : List UInt8} (h : BytesAt w A n l) : l.length = n := by have := h.1; simpa using this
theorem BytesAt.below {w w' : World} {A : Option Addr} {n : Nat} {l : List UInt8} (h : BytesAt w A n l) (hb : Below w.heap.size w w') : BytesAt w' A n l := (Reads.below h hb).more hb.size
theorem BytesAt.at_ {w : World} {A : Option Addr} {n : Nat} {l : List UInt8} (h : BytesAt w A n l) {k : Nat} (hk : k < n) :
    ∃ ad, A = some ad ∧ ad.block < w.heap.size ∧ w.cell? (ad.add k) = some (.int .u8 ((l.getD k 0).toNat : Int)) := by
  obtain ⟨ad, u, e, hb, hu, hc⟩ := Reads.at_ h hk
  refine ⟨ad, e, hb, ?_⟩
  rw [hc, ← hu, List.getElem?_map, List.getD_eq_getElem?_getD, List.getElem?_eq_getElem (by rw [h.len]; exact hk)]
  rfl

set_option maxHeartbeats 400000 in
theorem add_calls (s : Nat) (A : Option Addr) (n cap : Nat) (l : List UInt8) (w : World) (hs : s < 4294967296) (hn : n ≤ 140737488351232) (ht : CrcTab w) (hl : BytesAt w A n l) :
    Calls Tryd.prog 14 #[.int .u32 (s : Int), .slice A n cap] w fun e w' => e = .returned (.int .u32 ((Crc.full ^^^ Crc.reg (Crc.full ^^^ s) l : Nat) : Int)) ∧ w = w' := by
  obtain ⟨m, e0, hm, hmd⟩ : ∃ m : Nat, bits .xor .u32 IntKind.u32.max (s : Int) = (m : Int) ∧ m < 4294967296 ∧ Hid (m = Crc.full ^^^ s) :=
    ⟨Crc.full ^^^ s, max_xor s hs, Crc.full_xor_lt s hs, rfl⟩
  have ht' := Lib.hid ht
  have hl' := Lib.hid hl
  clear ht hl
  go_enter Tryd.func14, Tryd.ntmps14
  go_wp2_with fail
  go_loop [5, 12] (fun r i => ∃ k q : Nat, k ≤ n ∧ i = .int .i64 k ∧ r = .int .u32 (q : Int) ∧ q < 4294967296 ∧ Hid (q = Crc.reg m (l.take k))) (fun _ i => n - (intOf i).toNat)
  case atStart => exact ⟨0, m, Nat.zero_le _, rfl, rfl, hm, rfl⟩
  case round =>
    obtain ⟨k, q, hk, rfl, rfl, hq, hqd⟩ := hrel
    clear e0
    by_cases hlt : k < n
    · obtain ⟨ad, rfl, hb, hc⟩ := hl'.out.at_ hlt
      have hcb := (l.getD k 0).toNat_lt
      have hnext : Hid (Crc.turn q (l.getD k 0).toNat = Crc.reg m (l.take (k + 1))) := by
        show _ = _
        rw [hqd.out, List.take_add_one, List.getElem?_eq_getElem (by rw [hl'.out.len]; exact hlt), Option.toList_some, Crc.reg_snoc, List.getD_eq_getElem?_getD, List.getElem?_eq_getElem (by rw [hl'.out.len]; exact hlt)]
        rfl
      generalize (l.getD k 0).toNat = c at hc hcb hnext
      have hq2 : Crc.turn q c < 4294967296 := Crc.turn_lt q c hq hcb
      go_wp2_with (go_at_call 26; refine (turn_calls q c _ hq hcb ht'.out).mono ?_; rintro e w' ⟨rfl, rfl⟩)
      go_round
      case rel => exact ⟨k + 1, _, by omega, by go_num, rfl, hq2, hnext⟩
      case measure => simp [intOf]; omega
    · obtain rfl : k = n := by omega
      have e1 := max_xor q hq
      have hfin : Hid (Crc.full ^^^ q = Crc.full ^^^ Crc.reg (Crc.full ^^^ s) l) := by
        show _ = _
        rw [hqd.out, hmd.out, List.take_of_length_le (by rw [hl'.out.len]; exact Nat.le_refl _)]
      go_wp2
      go_ret
      exact ⟨ret_int (by rw [hfin.out]), rfl⟩
end Go.Proofs.YtggimkndpmiimaaDoor
