/-
The walk through strconv.FormatUint at base 16, for numbers of nine hexadecimal digits.
-/
import Derived.Test.YtggimkndpmiimaaDoorCrcB
set_option linter.unusedVariables false
set_option linter.unusedSimpArgs false
namespace Go.Proofs.YtggimkndpmiimaaDoor
open Go.RowKit

set_option maxHeartbeats 400000 in
theorem tz16_calls (w : World) (ht : w.cell? ⟨3, 15, none⟩ = some (.int .u8 4)) :
    Calls Tryd.prog 44 #[.int .u64 16] w fun e w' => e = .returned (.int .i64 4) ∧ w = w' := by
  have e1 : bits .and .u64 16 (IntKind.u64.wrap (-16)) = 16 := by decide +kernel
  have e2 : IntKind.u64.wrap (16 * 285870213051353865) / 288230376151711744 = 15 := by decide +kernel
  have e3 : IntKind.u64.wrap 4573923408821661840 / 288230376151711744 = 15 := by decide +kernel
  go_enter Tryd.func44, Tryd.ntmps44
  go_wp2
  go_ret
  exact ⟨rfl, rfl⟩

theorem ofInt_u64' (a : Nat) (ha : a < 18446744073709551616) : (BitVec.ofInt 64 (a : Int)).toNat = a := by
  rw [BitVec.ofInt_natCast, BitVec.toNat_ofNat]; exact Nat.mod_eq_of_lt (by omega)
theorem u64_and15 (a : Nat) (ha : a < 18446744073709551616) : bits .and .u64 (a : Int) 15 = ((a % 16 : Nat) : Int) := by
  show IntKind.u64.wrap ((BitVec.ofInt 64 (a : Int) &&& BitVec.ofInt 64 ((15 : Nat) : Int)).toNat : Int) = _
  rw [BitVec.toNat_and, ofInt_u64' a ha, ofInt_u64' 15 (by omega), show a &&& 15 = a % 16 from Nat.and_two_pow_sub_one_eq_mod a 4, IntKind.wrap_u64]
  omega
theorem dig_at (d : Nat) (h : d < 16) (h2 : d < (⟨#[48, 49, 50, 51, 52, 53, 54, 55, 56, 57, 97, 98, 99, 100, 101, 102, 103, 104, 105, 106, 107, 108, 109, 110, 111, 112, 113, 114, 115, 116, 117, 118, 119, 120, 121, 122]⟩ : ByteArray).size) : (⟨#[48, 49, 50, 51, 52, 53, 54, 55, 56, 57, 97, 98, 99, 100, 101, 102, 103, 104, 105, 106, 107, 108, 109, 110, 111, 112, 113, 114, 115, 116, 117, 118, 119, 120, 121, 122]⟩ : ByteArray)[d]'h2 = dig d := by
  have : ∀ d : Fin 16, (⟨#[48, 49, 50, 51, 52, 53, 54, 55, 56, 57, 97, 98, 99, 100, 101, 102, 103, 104, 105, 106, 107, 108, 109, 110, 111, 112, 113, 114, 115, 116, 117, 118, 119, 120, 121, 122]⟩ : ByteArray)[d.val]'(Nat.lt_of_lt_of_le d.isLt (by decide)) = dig d := by decide
  exact this ⟨d, h⟩
def cellsK (k u : Nat) : Array Value := (List.replicate (65 - k) (Value.int .u8 0) ++ (low k u).map fun b => Value.int .u8 (b.toNat : Int)).toArray
theorem cellsK_cell (k u : Nat) (h : k < 65) : (cellsK k u)[65 - k - 1]? = some (.int .u8 0) := by
  unfold cellsK
  rw [List.getElem?_toArray, List.getElem?_append_left (by simp; omega), List.getElem?_replicate]
  simp; omega
theorem cellsK_step (k u : Nat) (h : k < 65) : (cellsK k u).setIfInBounds (65 - k - 1) (.int .u8 ((dig (u / 16 ^ k % 16)).toNat : Int)) = cellsK (k + 1) u := by
  unfold cellsK
  rw [List.setIfInBounds_toArray]
  congr 1
  rw [show 65 - k - 1 = 64 - k by omega, show 65 - k = (64 - k) + 1 by omega, List.replicate_succ', List.append_assoc, List.set_append_right _ _ (by simp)]
  simp [low, show 65 - (k + 1) = 64 - k by omega]
theorem cellsK_low (u j : Nat) (hj : j < (low 9 u).length) : (cellsK 9 u)[56 + j]? = some (.int .u8 ((low 9 u)[j].toNat : Int)) := by
  unfold cellsK
  rw [List.getElem?_toArray, List.getElem?_append_right (by simp), List.length_replicate, List.getElem?_map, show 56 + j - (65 - 9) = j by omega, List.getElem?_eq_getElem hj]
  rfl
def zeros65 : Array Value := Array.replicate 65 (.int .u8 0)

set_option maxHeartbeats 400000 in
theorem bits16_calls (u : Nat) (w : World) (h0 : 4294967296 ≤ u) (h1 : u < 8589934592) (ht : w.cell? ⟨3, 15, none⟩ = some (.int .u8 4)) (hB : 3 < w.heap.size) :
    Calls Tryd.prog 38 #[.slice none 0 0, .int .u64 (u : Int), .int .i64 16, .bool false, .bool false] w fun e w' => e = .returned (.tuple #[.slice none 0 0, .string ⟨(low 9 u).toArray⟩]) ∧ Below w.heap.size w w' := by
  have v1 : ∀ w, (zeroValue 65).run Tryd.prog w = .ok (.agg zeros65) w := fun _ => by kernel_rfl
  have v2 : ∀ w, (Go.sizeOf 65).run Tryd.prog w = .ok 65 w := fun _ => by kernel_rfl
  have v3 : ∀ w, (isAgg 65).run Tryd.prog w = .ok true w := fun _ => by kernel_rfl
  go_enter Tryd.func38, Tryd.ntmps38
  go_wp2_with (first | (go_at_call 44; refine (tz16_calls _ ((World.cell?_alloc_lt w _ _ hB).trans ht)).mono ?_; rintro e w' ⟨rfl, rfl⟩) | go_in)
  go_loopw [1, 13] (fun v1 v13 wr => ∃ k q : Nat, k ≤ 8 ∧ v13 = .int .i64 (65 - (k : Int)) ∧ v1 = .int .u64 (q : Int) ∧ q < 8589934592 ∧ Hid (q = u / 16 ^ k) ∧ wr = w.alloc (.cells (cellsK k u) 65)) (fun v1 v13 _ => (intOf v13).toNat)
  case atStart => exact ⟨0, u, by omega, rfl, rfl, h1, by show _ = _; simp, rfl⟩
  case round =>
    obtain ⟨k, q, hk, rfl, rfl, hq, hqd, rfl⟩ := hrel
    by_cases hlt : 16 ≤ q
    · have hk8 : k < 8 := by
        by_cases h : k = 8
        · subst h; have := hqd.out; omega
        · omega
      have e1 : bits .and .u64 (q : Int) 15 = ((q % 16 : Nat) : Int) := u64_and15 q (by omega)
      have hc := cellsK_cell k u (by omega)
      have hs := cellsK_step k u (by omega)
      rw [← hqd.out] at hs
      have hb := Lib.hid (dig_at (q % 16) (by omega))
      have hr : q % 16 < 16 := by omega
      have hn : Hid (q / 16 = u / 16 ^ (k + 1)) := by show _ = _; rw [hqd.out, Nat.div_div_eq_div_mul, Nat.pow_succ]
      generalize q % 16 = d at e1 hs hb hr
      have hs' := Lib.hid hs
      clear hs
      go_wp2
      go_roundw
      case rel => exact ⟨k + 1, q / 16, by omega, by go_num, by go_num, by omega, hn, by simp only [hb.out, hs'.out]⟩
      case measure => simp [intOf]; omega
    · have hk8 : k = 8 := by
        rcases Nat.lt_or_ge k 8 with h | h
        · exfalso
          have h2 : 16 ^ (k + 1) ≤ 16 ^ 8 := Nat.pow_le_pow_right (by decide) (by omega)
          have h3 : 16 ≤ u / 16 ^ k := by
            rw [Nat.le_div_iff_mul_le (Nat.pow_pos (by decide))]
            rw [Nat.pow_succ] at h2
            omega
          have := hqd.out; omega
        · omega
      subst hk8
      have hq1 : q = 1 := by have := hqd.out; omega
      subst hq1
      have hc := cellsK_cell 8 u (by omega)
      have hs := cellsK_step 8 u (by omega)
      rw [← hqd.out] at hs
      simp only [Nat.reduceSub, Nat.reduceMod] at hc hs
      have hs2 : ∀ h2 : 1 < (⟨#[48, 49, 50, 51, 52, 53, 54, 55, 56, 57, 97, 98, 99, 100, 101, 102, 103, 104, 105, 106, 107, 108, 109, 110, 111, 112, 113, 114, 115, 116, 117, 118, 119, 120, 121, 122]⟩ : ByteArray).size, (cellsK 8 u).setIfInBounds 56 (.int .u8 (((⟨#[48, 49, 50, 51, 52, 53, 54, 55, 56, 57, 97, 98, 99, 100, 101, 102, 103, 104, 105, 106, 107, 108, 109, 110, 111, 112, 113, 114, 115, 116, 117, 118, 119, 120, 121, 122]⟩ : ByteArray)[1]'h2).toNat : Int)) = cellsK 9 u := fun h2 => by rw [dig_at 1 (by omega) h2]; exact hs
      clear hs
      have hsl : ∀ W, (Instr.sliceAt 65 (.pointer (some ⟨w.heap.size, 0, none⟩)) (some (.int .i64 56)) none none).run Tryd.prog W = .ok (.slice (some ⟨w.heap.size, 56, none⟩) 9 9) W := fun W => by
        rw [run_sliceAt_array_l W 65 ⟨w.heap.size, 0, none⟩ (by kernel_rfl) .i64 56 (by decide) (by decide +kernel)]
        kernel_rfl
      have hcv : (convert 22 9 (.slice (some ⟨w.heap.size, 56, none⟩) 9 9)).run Tryd.prog (w.alloc (.cells (cellsK 9 u) 65)) = .ok (.string ⟨(low 9 u).toArray⟩) (w.alloc (.cells (cellsK 9 u) 65)) := by
        have h := run_convert_bytes_back (P := Tryd.prog) (w.alloc (.cells (cellsK 9 u) 65)) 22 9 5 ⟨w.heap.size, 56, none⟩ 9 (low 9 u) Tryd.underlying22 Tryd.underlying5 Tryd.underlying9 (fun j hj => by
          have hj9 : j < 9 := by rw [low_length] at hj; exact hj
          have ha : Addr.add ⟨w.heap.size, 56, none⟩ j = ⟨w.heap.size, 56 + j, none⟩ := by unfold Addr.add; split <;> simp_all
          rw [ha, World.cell?_alloc_new]
          exact cellsK_low u j hj)
        rw [low_length] at h
        exact h
      go_wp2
      go_ret2
      exact ⟨rfl, (Below.refl _ _).alloc (Nat.le_refl _) _⟩

set_option maxHeartbeats 400000 in
theorem format16_calls (u : Nat) (w : World) (h0 : 4294967296 ≤ u) (h1 : u < 8589934592) (ht : w.cell? ⟨3, 15, none⟩ = some (.int .u8 4)) (hB : 3 < w.heap.size) :
    Calls Tryd.prog 25 #[.int .u64 (u : Int), .int .i64 16] w fun e w' => e = .returned (.string ⟨(low 9 u).toArray⟩) ∧ Below w.heap.size w w' := by
  have H := Lib.hid (bits16_calls u w h0 h1 ht hB)
  clear ht
  go_enter Tryd.func25, Tryd.ntmps25
  go_wp2_with (first | (go_at_call 38; refine H.out.mono ?_; rintro e w' ⟨rfl, hb⟩) | go_in)
  go_ret
  exact ⟨rfl, hb⟩

theorem low_next (n : Nat) (h : n < 4294967296) : low 9 (n + 4294967296) = 49 :: low 8 n := by
  have h1 : ∀ k, k ≤ 8 → low k (n + 4294967296) = low k n := by
    intro k
    induction k with
    | zero => intro _; rfl
    | succ k ih =>
      intro hk
      have e : (n + 4294967296) / 16 ^ k % 16 = n / 16 ^ k % 16 := by
        have h16 : (4294967296 : Nat) = 16 ^ k * (16 ^ (7 - k) * 16) := by
          rw [← Nat.mul_assoc, ← Nat.pow_add, show k + (7 - k) = 7 by omega]
        rw [h16, Nat.add_mul_div_left _ _ (Nat.pow_pos (by decide)), Nat.add_mul_mod_self_right]
      simp only [low, e, ih (by omega)]
  have e : (n + 4294967296) / 16 ^ 8 % 16 = 1 := by simp only [Nat.reducePow]; omega
  show dig ((n + 4294967296) / 16 ^ 8 % 16) :: low 8 (n + 4294967296) = _
  rw [e, h1 8 (by omega)]; rfl

set_option maxHeartbeats 400000 in
theorem crctext_calls (n : Nat) (w : World) (hn : n < 4294967296) (ht : w.cell? ⟨3, 15, none⟩ = some (.int .u8 4)) (hB : 3 < w.heap.size) :
    Calls Tryd.prog 12 #[.int .u32 (n : Int)] w fun e w' => e = .returned (.string ⟨(low 8 n).toArray⟩) ∧ Below w.heap.size w w' := by
  have e1 : bits .or .u64 (n : Int) 4294967296 = ((n + 4294967296 : Nat) : Int) := by
    have h := bits_join .u64 64 (by decide) (fun n h0 h1 => by rw [IntKind.wrap_u64]; omega) 32 4294967296 (n : Int) (by decide) (by decide) (by decide) (by omega) (by omega) (by omega)
    rw [show bits .or .u64 (n : Int) 4294967296 = bits .or .u64 4294967296 (n : Int) by simp only [bits]; rw [BitVec.or_comm], h]
    omega
  have H0 := format16_calls (n + 4294967296) w (by omega) (by omega) ht hB
  rw [low_next n hn] at H0
  have H := Lib.hid H0
  clear H0 ht
  have hl : (low 8 n).length = 8 := low_length 8 n
  have hcut : Hid ((⟨(49 :: low 8 n).toArray⟩ : ByteArray).extract 1 9 = ⟨(low 8 n).toArray⟩) := by
    show _ = _
    apply ByteArray.ext
    simp [ByteArray.data_extract, hl, List.take_of_length_le]
  generalize n + 4294967296 = u at e1 H
  generalize low 8 n = t at H hl hcut
  go_enter Tryd.func12, Tryd.ntmps12
  go_wp2_with (first | (go_at_call 25; refine H.out.mono ?_; rintro e w' ⟨rfl, hb⟩))
  go_ret
  exact ⟨ret_str hcut.out, hb⟩
end Go.Proofs.YtggimkndpmiimaaDoor
