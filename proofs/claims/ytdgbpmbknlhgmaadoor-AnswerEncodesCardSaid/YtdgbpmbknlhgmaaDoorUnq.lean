/-
The walks back from quotes: changeoverref06.value, quote.digit, quote.unescape.
-/
import Derived.Test.YtdgbpmbknlhgmaaDoorQuoteR
import Derived.Laws.IdiomStrings
import Derived.Laws.BytesArg
import Derived.Laws.AppendOwn
import Derived.Lib.BufferRead
set_option linter.unusedVariables false
set_option linter.unusedSimpArgs false
namespace Go.Proofs.YtdgbpmbknlhgmaaDoor
open Go.RowKit Qt

/-- a hexadecimal digit's number; below 0: it is none. -/
def dg (c : UInt8) : Int := match val c with | some v => (v : Int) | none => -1
theorem dg_lt (c : UInt8) : -1 ≤ dg c ∧ dg c ≤ 15 := by
  unfold dg val
  split
  · rename_i v h
    split at h
    · cases h; omega
    · split at h
      · cases h; omega
      · cases h
  · omega
theorem dg_val {c : UInt8} {v : Nat} (h : val c = some v) : dg c = (v : Int) := by unfold dg; rw [h]
theorem dg_none {c : UInt8} (h : val c = none) : dg c = -1 := by unfold dg; rw [h]
theorem index_hex (c : UInt8) : Lib.indexByte [48, 49, 50, 51, 52, 53, 54, 55, 56, 57, 97, 98, 99, 100, 101, 102] c = dg c := by
  have : ∀ n, n < 256 → Lib.indexByte [48, 49, 50, 51, 52, 53, 54, 55, 56, 57, 97, 98, 99, 100, 101, 102] (UInt8.ofNat n) = dg (UInt8.ofNat n) := by decide +kernel
  have h := this c.toNat c.toNat_lt
  rwa [UInt8.ofNat_toNat] at h

set_option maxHeartbeats 800000 in
theorem value_calls (c : UInt8) (w : World) :
    Calls Tryd.prog 51 #[.int .u8 (c.toNat : Int)] w fun e w' => e = .returned (.int .i64 (dg c)) ∧ w = w' := by
  go_enter Tryd.func51, Tryd.ntmps51
  have hd : Hid (dg c = if 48 ≤ c.toNat ∧ c.toNat ≤ 57 then (c.toNat : Int) - 48 else if 97 ≤ c.toNat ∧ c.toNat ≤ 102 then (c.toNat : Int) - 87 else -1) := by
    show _ = _
    unfold dg val
    by_cases h1 : 48 ≤ c.toNat ∧ c.toNat ≤ 57
    · rw [if_pos h1, if_pos h1]; simp only; omega
    · by_cases h2 : 97 ≤ c.toNat ∧ c.toNat ≤ 102
      · rw [if_neg h1, if_neg h1, if_pos h2, if_pos h2]; simp only; omega
      · rw [if_neg h1, if_neg h1, if_neg h2, if_neg h2]
  have hc := c.toNat_lt
  generalize dg c = q at *
  generalize c.toNat = n at *
  by_cases h1 : 48 ≤ n ∧ n ≤ 57
  · have hq : q = (n : Int) - 48 := by rw [hd.out, if_pos h1]
    clear hd
    go_wp2
    all_goals go_ret
    all_goals exact ⟨ret_int (by omega), rfl⟩
  by_cases h2 : 97 ≤ n ∧ n ≤ 102
  · have hq : q = (n : Int) - 87 := by rw [hd.out, if_neg h1, if_pos h2]
    clear hd
    go_wp2
    all_goals go_ret
    all_goals exact ⟨ret_int (by omega), rfl⟩
  have hq : q = -1 := by rw [hd.out, if_neg h1, if_neg h2]
  clear hd
  go_wp2
  all_goals go_ret
  all_goals exact ⟨ret_int (by omega), rfl⟩

set_option maxHeartbeats 800000 in
theorem digit_calls (c : UInt8) (w : World) :
    Calls Tryd.prog 87 #[.int .u8 (c.toNat : Int)] w fun e w' => e = .returned (.int .i64 (dg c)) ∧ w = w' := by
  go_enter Tryd.func87, Tryd.ntmps87
  go_wp2_with (refine (Tryd.strings_IndexByte _ _ _).mono ?_)
  go_ret
  exact ⟨ret_int (index_hex c), rfl⟩

set_option maxRecDepth 100000 in
/-- 'string(b)' where the bytes lie in a row of the function's own. -/
theorem convert_own {w : World} {base : Nat} {A : Option Addr} {n c : Nat} {l : List UInt8} (h : w.ownsRow base 5 1 (.slice A n c) n (Lib.byteCells l)) :
    (convert 36 9 (.slice A n c)).run Tryd.prog w = .ok (.string (str l)) w := by
  have hn : l.length = n := by have := h.1; rw [Lib.byteCells_length] at this; omega
  subst hn
  cases A with
  | none =>
    have h0 : l = [] := by
      rcases h.2 with ⟨_, h0⟩ | ⟨g, cap, cur, hv, _⟩
      · exact List.eq_nil_of_length_eq_zero h0
      · injection hv with hA; cases hA
    subst h0
    have := Lib.run_convert_nil_bytes (P := Tryd.prog) w 36 9 5 c (by kernel_rfl) (by kernel_rfl) (by kernel_rfl)
    exact this
  | some a =>
    obtain ⟨g, rfl⟩ : ∃ g, a = ⟨g, 0, none⟩ := by
      rcases h.2 with ⟨hv, _⟩ | ⟨g, cap, cur, hv, _⟩
      · injection hv with hA; cases hA
      · injection hv with hA; injection hA with hA; exact ⟨g, hA⟩
    have hcs := h.cells (g := g) rfl
    refine run_convert_bytes_back (P := Tryd.prog) w 36 9 5 ⟨g, 0, none⟩ c l (by kernel_rfl) (by kernel_rfl) (by kernel_rfl) fun j hj => ?_
    refine hcs j _ ?_
    rw [Lib.byteCells, List.getElem?_map, List.getElem?_eq_getElem hj]
    rfl
end Go.Proofs.YtdgbpmbknlhgmaaDoor
