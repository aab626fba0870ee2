/-
Decimal digits: the walks through changeoverref08.Digits, strconv.Itoa.
-/
import Derived.Test.YtdgbpmbknlhgmaaGreatDoorShelfB
import Derived.Test.YtdgbpmbknlhgmaaGreatDoorLawQ
import Derived.Test.YtdgbpmbknlhgmaaGreatDoorDigMath
set_option linter.unusedVariables false
set_option linter.unusedSimpArgs false
namespace Go.Proofs.YtdgbpmbknlhgmaaGreatDoor
open Go.RowKit Qt

def decDig (d : Nat) : UInt8 := UInt8.ofNat (48 + d)
theorem dec_cut (d : Nat) (h : d < 10) : (⟨#[48, 49, 50, 51, 52, 53, 54, 55, 56, 57]⟩ : ByteArray).extract d (d + 1) = ⟨#[decDig d]⟩ := by
  have : ∀ d, d < 10 → (⟨#[48, 49, 50, 51, 52, 53, 54, 55, 56, 57]⟩ : ByteArray).extract d (d + 1) = ⟨#[decDig d]⟩ := by decide
  exact this d h
theorem dec_len (n : Nat) : ∀ k, 1 ≤ k → n < 10 ^ k → (Lib.decDigits n).length ≤ k := by
  intro k
  induction k generalizing n with
  | zero => intro h; omega
  | succ k ih =>
    intro _ hn
    rw [Lib.decDigits]
    by_cases h : n < 10
    · rw [dif_pos h]; simp
    · rw [dif_neg h, List.length_append]
      have hk : 1 ≤ k := by
        rcases Nat.eq_zero_or_pos k with h0 | h0
        · subst h0; simp at hn; omega
        · exact h0
      have := ih (n / 10) hk (by rw [Nat.pow_succ] at hn; omega)
      simp only [List.length_cons, List.length_nil]; omega
theorem dec_len20 (n : Nat) (h : n < 18446744073709551616) : (Lib.decDigits n).length ≤ 20 := dec_len n 20 (by omega) (by simp only [Nat.reducePow]; omega)

set_option maxHeartbeats 800000 in
theorem digits_calls (n : Nat) (w : World) (hn : n ≤ 9223372036854775807) :
    Calls Tryz.prog 51 #[.int .i64 (n : Int)] w fun e w' => e = .returned (.string (str (Lib.decDigits n))) ∧ w = w' := by
  go_enter Tryz.func51, Tryz.ntmps51
  go_wp2_with fail
  go_loop [0, 3] (fun i s => ∃ (q : Nat) (t : List UInt8), i = .int .i64 (q : Int) ∧ s = .string (str t) ∧ q ≤ 9223372036854775807 ∧ t.length ≤ 20 ∧ Hid (Lib.decDigits n = Lib.decDigits q ++ t ∧ (t = [] ∨ 0 < q))) (fun i _ => (intOf i).toNat)
  case atStart => exact ⟨n, [], rfl, rfl, hn, by simp, ⟨by simp, .inl rfl⟩⟩
  case round =>
    obtain ⟨q, t, rfl, rfl, hq, ht, hd⟩ := hrel
    have e1 := dec_cut (q % 10) (by omega)
    have b1 : ((q % 10 : Nat) : Int) = (q : Int) % 10 := by omega
    have hs := str_size t
    have hcat : Hid ((⟨#[decDig (q % 10)]⟩ : ByteArray) ++ str t = str (decDig (q % 10) :: t)) := str_append [decDig (q % 10)] t
    by_cases h10 : q < 10
    · have hfin : Hid (Lib.decDigits n = decDig (q % 10) :: t) := by
        show _ = _
        rw [hd.out.1, Lib.decDigits_one h10, show q % 10 = q by omega]; rfl
      go_wp2
      go_ret
      exact ⟨ret_str (by rw [hfin.out, hcat.out]), rfl⟩
    · have hnext : Hid (Lib.decDigits n = Lib.decDigits (q / 10) ++ (decDig (q % 10) :: t)) := by
        show _ = _
        rw [hd.out.1]
        conv => lhs; rw [Lib.decDigits, dif_neg h10]
        simp [decDig]
      have hlt : t.length + 1 ≤ 20 := by
        have h1 := dec_len20 n (by omega)
        rw [hnext.out] at h1
        simp at h1
        omega
      go_wp2
      go_round
      case rel => exact ⟨q / 10, decDig (q % 10) :: t, by go_num, by rw [hcat.out], by omega, by simpa using hlt, ⟨hnext.out, .inr (by omega)⟩⟩
      case measure => simp [intOf]; omega

theorem itoa_calls (n : Nat) (w : World) (hn : n ≤ 9223372036854775807) (htab : Lib.TabIs Tryz.prog w "internal/strconv.uint64pow10" .u64 Lib.pow10Tab) :
    Calls Tryz.prog 57 #[.int .i64 (n : Int)] w fun e w' => e = .returned (.string (str (Lib.decDigits n))) ∧ Below w.heap.size w w' := by
  refine (Tryz.strconv_Itoa n (by omega) (by omega) w htab).mono ?_
  rintro e w' ⟨rfl, k, os, rfl⟩
  rw [Lib.itoa_nonneg]
  refine ⟨rfl, ?_⟩
  exact Below.trans (below_drewN (Below.refl _ _) k) (below_regrown (w.drewN k) (w.drewN k).drawn os)

theorem digits_below (n : Nat) (w : World) (hn : n ≤ 9223372036854775807) :
    Calls Tryz.prog 51 #[.int .i64 (n : Int)] w fun e w' => e = .returned (.string (str (Lib.decDigits n))) ∧ Below w.heap.size w w' :=
  (digits_calls n w hn).mono fun _ _ ⟨h, hw⟩ => ⟨h, hw ▸ Below.refl _ _⟩
def TabP (w : World) : Prop := Lib.TabIs Tryz.prog w "internal/strconv.uint64pow10" .u64 Lib.pow10Tab
theorem TabP.below {B : Nat} {w w' : World} (h : TabP w) (hb : Below B w w') (hB : w.heap.size ≤ B) : TabP w' := Joins.tab_stays (g := 4) (by kernel_rfl) h hb hB

theorem TabP.alloc {w : World} (h : TabP w) (o : Obj) : TabP (w.alloc o) := h.below ((Below.refl _ _).alloc (Nat.le_refl _) o) (Nat.le_refl _)
/-- what the walks need of the package variables, with the table of digits. -/
structure AVars (w : World) : Prop where
  q : QVars w
  t : TabP w
theorem AVars.below {w w' : World} (h : AVars w) (hb : Below w.heap.size w w') : AVars w' := ⟨h.q.below hb, h.t.below hb (Nat.le_refl _)⟩
theorem AVars.alloc {w : World} (h : AVars w) (o : Obj) : AVars (w.alloc o) := h.below ((Below.refl _ _).alloc (Nat.le_refl _) o)
end Go.Proofs.YtdgbpmbknlhgmaaGreatDoor
