/-
The walks through quote.Quote and what it calls.
-/
import Derived.Test.YtdgbpmbknlhgmaaDoorBuilder
import Derived.Test.YtdgbpmbknlhgmaaDoorQuoteMath
import Derived.Lib.QuietBelow
import Derived.BigQuiet
import Derived.Shelf.Unicode.DecodeAny
set_option linter.unusedVariables false
set_option linter.unusedSimpArgs false
namespace Go.Proofs.YtdgbpmbknlhgmaaDoor
open Go.RowKit Qt

def str (l : List UInt8) : ByteArray := ⟨l.toArray⟩
theorem str_append (a b : List UInt8) : str a ++ str b = str (a ++ b) := by apply ByteArray.ext; simp [str]
theorem str_size (l : List UInt8) : (str l).size = l.length := by simp [str, ByteArray.size]
theorem hex_cut (d : Nat) (h : d < 16) : (⟨#[48, 49, 50, 51, 52, 53, 54, 55, 56, 57, 97, 98, 99, 100, 101, 102]⟩ : ByteArray).extract d (d + 1) = str [hx d] := by
  have : ∀ d, d < 16 → (⟨#[48, 49, 50, 51, 52, 53, 54, 55, 56, 57, 97, 98, 99, 100, 101, 102]⟩ : ByteArray).extract d (d + 1) = str [hx d] := by decide
  exact this d h
theorem u8_and15n (a : Nat) (ha : a < 256) : bits .and .u8 (a : Int) 15 = ((a % 16 : Nat) : Int) := by
  have h := u8_and15 (a : Int) (by omega) (by omega)
  rw [h]; omega

set_option maxHeartbeats 800000 in
theorem byteAs_calls (c : UInt8) (w : World) :
    Calls Tryd.prog 86 #[.int .u8 (c.toNat : Int)] w fun e w' => e = .returned (.string (str (esc c))) ∧ Below w.heap.size w w' := by
  have hc := c.toNat_lt
  have e1 := hex_cut (c.toNat / 16) (by omega)
  have e2 := hex_cut (c.toNat % 16) (by omega)
  have e3 := u8_and15n c.toNat (by omega)
  have e4 : (c.toNat : Int) / 16 = ((c.toNat / 16 : Nat) : Int) := by omega
  have s1 : (str [hx (c.toNat / 16)]).size = 1 := rfl
  have s2 : (str [hx (c.toNat % 16)]).size = 1 := rfl
  have s3 : ((⟨#[92, 120]⟩ : ByteArray) ++ str [hx (c.toNat / 16)]).size = 3 := rfl
  have hcat : Hid (((⟨#[92, 120]⟩ : ByteArray) ++ str [hx (c.toNat / 16)]) ++ str [hx (c.toNat % 16)] = str (esc c)) := by
    show _ = _
    rw [show (⟨#[92, 120]⟩ : ByteArray) = str [92, 120] from rfl, str_append, str_append]; rfl
  have b1 : c.toNat / 16 < 16 := by omega
  have b2 : c.toNat % 16 < 16 := by omega
  generalize hx (c.toNat / 16) = h1 at *
  generalize hx (c.toNat % 16) = h2 at *
  generalize c.toNat % 16 = d2 at *
  generalize c.toNat / 16 = d1 at *
  go_enter Tryd.func86, Tryd.ntmps86
  go_wp2
  go_quiet (fail)
  go_wp2
  go_ret
  exact ⟨ret_str (by rw [hcat.out]), below_drewN (Below.refl _ _) _⟩

theorem i32_eq (a b : Nat) : (((a : Nat) : Int) == ((b : Nat) : Int)) = decide (a = b) := by
  by_cases h : a = b
  · subst h; simp
  · rw [decide_eq_false h, beq_eq_false_iff_ne]; omega
set_option maxHeartbeats 800000 in
theorem escape_calls (l : List UInt8) (hl : l ≠ []) (w : World) :
    Calls Tryd.prog 47 #[.int .i32 ((dec l).1 : Int), .string (str (l.take (dec l).2))] w fun e w' => e = .returned (.string (str (piece l))) ∧ Below w.heap.size w w' := by
  have hp := dec_pos l hl
  have hsz : (str (l.take (dec l).2)).size = (dec l).2 := by rw [str_size, List.length_take]; omega
  have hg : ∀ h : 0 < (str (l.take (dec l).2)).size, (str (l.take (dec l).2))[0]'h = b0 l := by
    have hk : ∀ (m : List UInt8) (h : 0 < (str m).size), (str m)[0]'h = b0 m := by
      intro m h
      cases m with
      | nil => exact absurd h (by decide)
      | cons a m => rfl
    intro h
    rw [hk]
    cases l with
    | nil => exact absurd rfl hl
    | cons a l =>
      obtain ⟨k, hk⟩ : ∃ k, (dec (a :: l)).2 = k + 1 := ⟨_, (Nat.succ_pred_eq_of_pos hp.1).symm⟩
      rw [hk]; rfl
  have hpc : Hid (piece l = if (dec l).1 = 34 ∨ (dec l).1 = 92 then 92 :: l.take (dec l).2
      else if (dec l).1 < 32 ∨ (dec l).1 = 127 ∨ ((dec l).1 = 65533 ∧ (dec l).2 = 1) then esc (b0 l)
      else l.take (dec l).2) := rfl
  have hsa : Hid ((⟨#[92]⟩ : ByteArray) ++ str (l.take (dec l).2) = str (92 :: l.take (dec l).2)) := by
    show _ = _
    rw [show (⟨#[92]⟩ : ByteArray) = str [92] from rfl, str_append]; rfl
  have hsm : (str (l.take (dec l).2)).size < 1000 := by omega
  generalize (dec l).1 = r at *
  generalize (dec l).2 = n at *
  have hs0 : Hid (str (l.take n) = str (l.take n)) := rfl
  generalize hss : str (l.take n) = s at hsz hg hsa hsm ⊢
  have hs1 : Hid (s = str (l.take n)) := hss.symm
  clear hss hs0
  generalize piece l = pc at *
  generalize b0 l = c at *
  have n1 : ((n : Int) == 1) = decide (n = 1) := i32_eq n 1
  have e34 : ((r : Int) == 34) = decide (r = 34) := i32_eq r 34
  have e92 : ((r : Int) == 92) = decide (r = 92) := i32_eq r 92
  have e127 : ((r : Int) == 127) = decide (r = 127) := i32_eq r 127
  have e65 : ((r : Int) == 65533) = decide (r = 65533) := i32_eq r 65533
  go_enter Tryd.func47, Tryd.ntmps47
  by_cases h34 : r = 34
  · rw [decide_eq_true h34] at e34
    go_wp2
    go_ret
    exact ⟨ret_str (by rw [hpc.out, if_pos (by omega), hsa.out]), Below.refl _ _⟩
  rw [decide_eq_false h34] at e34
  by_cases h92 : r = 92
  · rw [decide_eq_true h92] at e92
    go_wp2
    go_ret
    exact ⟨ret_str (by rw [hpc.out, if_pos (by omega), hsa.out]), Below.refl _ _⟩
  rw [decide_eq_false h92] at e92
  by_cases h32 : r < 32
  · have l32 : decide ((r : Int) < 32) = true := by rw [decide_eq_true_eq]; omega
    have h0 : pc = esc c := by rw [hpc.out, if_neg (by omega), if_pos (by omega)]
    go_wp2_with (refine (byteAs_calls c _).mono ?_)
    rintro e w1 ⟨rfl, hb1⟩
    go_wp2
    go_ret
    exact ⟨ret_str (by rw [h0]), hb1⟩
  have l32 : decide ((r : Int) < 32) = false := by rw [decide_eq_false_iff_not]; omega
  by_cases h127 : r = 127
  · rw [decide_eq_true h127] at e127
    have h0 : pc = esc c := by rw [hpc.out, if_neg (by omega), if_pos (by omega)]
    go_wp2_with (refine (byteAs_calls c _).mono ?_)
    rintro e w1 ⟨rfl, hb1⟩
    go_wp2
    go_ret
    exact ⟨ret_str (by rw [h0]), hb1⟩
  rw [decide_eq_false h127] at e127
  by_cases h65 : r = 65533
  · rw [decide_eq_true h65] at e65
    by_cases hn : n = 1
    · rw [decide_eq_true hn] at n1
      have h0 : pc = esc c := by rw [hpc.out, if_neg (by omega), if_pos (by omega)]
      go_wp2_with (refine (byteAs_calls c _).mono ?_)
      rintro e w1 ⟨rfl, hb1⟩
      go_wp2
      go_ret
      exact ⟨ret_str (by rw [h0]), hb1⟩
    · rw [decide_eq_false hn] at n1
      go_wp2
      go_ret
      exact ⟨ret_str (by rw [hpc.out, if_neg (by omega), if_neg (by omega), hs1.out]), Below.refl _ _⟩
  rw [decide_eq_false h65] at e65
  go_wp2
  go_ret
  exact ⟨ret_str (by rw [hpc.out, if_neg (by omega), if_neg (by omega), hs1.out]), Below.refl _ _⟩
end Go.Proofs.YtdgbpmbknlhgmaaDoor
