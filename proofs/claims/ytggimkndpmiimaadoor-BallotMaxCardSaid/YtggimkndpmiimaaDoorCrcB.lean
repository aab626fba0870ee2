/-
The walks through the sums of package crc and of the document's reference: both are the sum of the plain text CrcMath; and the eight digits.
-/
import Derived.Test.YtggimkndpmiimaaDoorCrcA
set_option linter.unusedVariables false
set_option linter.unusedSimpArgs false
namespace Go.Proofs.YtggimkndpmiimaaDoor
open Go.RowKit

theorem crcsum_calls (A : Option Addr) (n cap : Nat) (l : List UInt8) (w : World) (hn : n ≤ 140737488351232) (ht : CrcTab w) (hl : BytesAt w A n l) :
    Calls Tryd.prog 10 #[.slice A n cap] w fun e w' => e = .returned (.int .u32 ((Crc.sum l : Nat) : Int)) ∧ w = w' := by
  have H := Lib.hid (add_calls 0 A n cap l w (by omega) hn ht hl)
  clear ht hl
  go_enter Tryd.func10, Tryd.ntmps10
  go_wp2_with (go_at_call 14; refine H.out.mono ?_; rintro e w' ⟨rfl, rfl⟩)
  go_ret
  exact ⟨rfl, rfl⟩

/-! ### the reference's sum, bit by bit -/
def stepk : Nat → Nat → Nat
  | 0, x => x
  | k + 1, x => Crc.step (stepk k x)
theorem stepk8 (x : Nat) : stepk 8 x = Crc.step8 x := rfl

set_option maxHeartbeats 400000 in
theorem refsum_calls (A : Option Addr) (n cap : Nat) (l : List UInt8) (w : World) (hn : n ≤ 140737488351232) (hl : BytesAt w A n l) :
    Calls Tryd.prog 11 #[.slice A n cap] w fun e w' => e = .returned (.int .u32 ((Crc.sum l : Nat) : Int)) ∧ w = w' := by
  have hl' := Lib.hid hl
  clear hl
  go_enter Tryd.func11, Tryd.ntmps11
  go_wp2_with fail
  go_loop [3, 4] (fun r i => ∃ k q : Nat, k ≤ n ∧ i = .int .i64 k ∧ r = .int .u32 (q : Int) ∧ q < 4294967296 ∧ Hid (q = Crc.reg Crc.full (l.take k))) (fun _ i => n - (intOf i).toNat)
  case atStart => exact ⟨0, 4294967295, Nat.zero_le _, rfl, rfl, by omega, rfl⟩
  case round =>
    obtain ⟨k, q, hk, rfl, rfl, hq, hqd⟩ := hrel
    by_cases hlt : k < n
    · obtain ⟨ad, rfl, hb, hc⟩ := hl'.out.at_ hlt
      have hcb := (l.getD k 0).toNat_lt
      have hnext : Hid (Crc.turn q (l.getD k 0).toNat = Crc.reg Crc.full (l.take (k + 1))) := by
        show _ = _
        rw [hqd.out, List.take_add_one, List.getElem?_eq_getElem (by rw [hl'.out.len]; exact hlt), Option.toList_some, Crc.reg_snoc, List.getD_eq_getElem?_getD, List.getElem?_eq_getElem (by rw [hl'.out.len]; exact hlt)]
        rfl
      generalize (l.getD k 0).toNat = c at hc hcb hnext
      have e0 := u32_xor_nat q c hq (by omega)
      have hx : q ^^^ c < 4294967296 := Nat.xor_lt_two_pow (n := 32) (by omega) (by omega)
      have hfin : Hid (Crc.turn q c = stepk 8 (q ^^^ c)) := rfl
      generalize q ^^^ c = x at e0 hx hfin
      go_wp2_with fail
      go_loop [3, 5] (fun r i => ∃ m y : Nat, m ≤ 8 ∧ i = .int .i64 m ∧ r = .int .u32 (y : Int) ∧ y < 4294967296 ∧ Hid (y = stepk m x)) (fun _ i => 8 - (intOf i).toNat)
      case atStart => exact ⟨0, x, by omega, rfl, rfl, hx, rfl⟩
      case round =>
        obtain ⟨m, y, hm, rfl, rfl, hy, hyd⟩ := hrel
        by_cases hm8 : m < 8
        · by_cases hodd : y % 2 = 1
          · have t1 : ((y : Int) % 2 == 1) = true := beq_iff_eq.2 (by omega)
            have e1 := u32_xor_nat (y / 2) 3988292384 (by omega) (by omega)
            have hz : (y / 2) ^^^ 3988292384 < 4294967296 := Nat.xor_lt_two_pow (n := 32) (by omega) (by omega)
            have hzd : Hid ((y / 2) ^^^ 3988292384 = stepk (m + 1) x) := by
              show _ = Crc.step (stepk m x)
              rw [← hyd.out]; unfold Crc.step Crc.pol; rw [if_pos hodd]
            generalize (y / 2) ^^^ 3988292384 = z at e1 hz hzd
            rw [show ((y / 2 : Nat) : Int) = (y : Int) / 2 by omega, show ((3988292384 : Nat) : Int) = 3988292384 from rfl] at e1
            go_wp2
            go_round
            case rel => exact ⟨m + 1, z, by omega, by go_num, rfl, hz, hzd⟩
            case measure => simp [intOf]; omega
          · have t1 : ((y : Int) % 2 == 1) = false := beq_eq_false_iff_ne.2 (by omega)
            have hzd : Hid (y / 2 = stepk (m + 1) x) := by
              show _ = Crc.step (stepk m x)
              rw [← hyd.out]; unfold Crc.step; rw [if_neg hodd]; simp
            have hz : y / 2 < 4294967296 := by omega
            have e2 : (y : Int) / 2 = ((y / 2 : Nat) : Int) := by omega
            generalize y / 2 = z at e2 hz hzd
            go_wp2
            go_round
            case rel => exact ⟨m + 1, z, by omega, by go_num, rfl, hz, hzd⟩
            case measure => simp [intOf]; omega
        · obtain rfl : m = 8 := by omega
          go_wp2
          go_round
          case rel => exact ⟨k + 1, y, by omega, by go_num, rfl, hy, by show _ = _; rw [hyd.out, ← hfin.out]; exact hnext⟩
          case measure => simp [intOf]; omega
    · obtain rfl : k = n := by omega
      have hfin : Hid (((4294967295 - q : Nat) : Int) = ((Crc.sum l : Nat) : Int)) := by
        show _ = _
        unfold Crc.sum
        rw [Crc.full_xor _ (Crc.reg_lt _ _ (by decide)), hqd.out, List.take_of_length_le (by rw [hl'.out.len]; exact Nat.le_refl _)]
        rfl
      go_wp2
      go_ret
      exact ⟨ret_int (by rw [← hfin.out]; omega), rfl⟩

/-! ### the digits -/
def dig (d : Nat) : UInt8 := if d < 10 then UInt8.ofNat (48 + d) else UInt8.ofNat (87 + d)
/-- the k low hexadecimal digits. -/
def low : Nat → Nat → List UInt8
  | 0, _ => []
  | k + 1, n => dig (n / 16 ^ k % 16) :: low k n
def hexes : ByteArray := ⟨#[48, 49, 50, 51, 52, 53, 54, 55, 56, 57, 97, 98, 99, 100, 101, 102]⟩
theorem hexes_cut (d : Nat) (h : d < 16) : (⟨#[48, 49, 50, 51, 52, 53, 54, 55, 56, 57, 97, 98, 99, 100, 101, 102]⟩ : ByteArray).extract d (d + 1) = ⟨#[dig d]⟩ := by
  have : ∀ d, d < 16 → (⟨#[48, 49, 50, 51, 52, 53, 54, 55, 56, 57, 97, 98, 99, 100, 101, 102]⟩ : ByteArray).extract d (d + 1) = ⟨#[dig d]⟩ := by decide
  exact this d h
theorem low_length (k n : Nat) : (low k n).length = k := by
  induction k with
  | zero => rfl
  | succ k ih => simp [low, ih]

set_option maxHeartbeats 400000 in
theorem reftext_calls (n : Nat) (w : World) (hn : n < 4294967296) :
    Calls Tryd.prog 13 #[.int .u32 (n : Int)] w fun e w' => e = .returned (.string ⟨(low 8 n).toArray⟩) ∧ w = w' := by
  go_enter Tryd.func13, Tryd.ntmps13
  go_wp2_with fail
  go_loop [0, 3, 4] (fun u s i => ∃ (k q : Nat) (t : ByteArray), k ≤ 8 ∧ i = .int .i64 k ∧ u = .int .u32 (q : Int) ∧ s = .string t ∧ q < 4294967296 ∧ t.size = k ∧ Hid (q = n / 16 ^ k) ∧ Hid (t = ⟨(low k n).toArray⟩)) (fun _ _ i => 8 - (intOf i).toNat)
  case atStart => exact ⟨0, n, _, by omega, rfl, rfl, rfl, hn, rfl, by show _ = _; simp, rfl⟩
  case round =>
    obtain ⟨k, q, t, hk, rfl, rfl, rfl, hq, ht, hqd, htd⟩ := hrel
    by_cases hlt : k < 8
    · have e1 := hexes_cut (q % 16) (by omega)
      have b1 : ((q % 16 : Nat) : Int) = (q : Int) % 16 := by omega
      have h1 : Hid (q / 16 = n / 16 ^ (k + 1)) := by show _ = _; rw [hqd.out, Nat.div_div_eq_div_mul, Nat.pow_succ]
      have h2 : Hid ((⟨#[dig (q % 16)]⟩ : ByteArray) ++ t = ⟨(low (k + 1) n).toArray⟩) := by
        show _ = _
        rw [htd.out, hqd.out]
        simp [low, ByteArray.ext_iff]
      go_wp2
      go_round
      case rel => exact ⟨k + 1, q / 16, _, by omega, by go_num, by go_num, rfl, by omega, by rw [h2.out]; simp [ByteArray.size, low_length], h1, h2⟩
      case measure => simp [intOf]; omega
    · obtain rfl : k = 8 := by omega
      go_wp2
      go_ret
      exact ⟨ret_str htd.out, rfl⟩
end Go.Proofs.YtggimkndpmiimaaDoor
