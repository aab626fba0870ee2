/-
The walks through answer.Check, changeoverref09.Check.
-/
import Derived.Test.YtdgbpmbknlhgmaaDoorRunes
set_option linter.unusedVariables false
set_option linter.unusedSimpArgs false
namespace Go.Proofs.YtdgbpmbknlhgmaaDoor
open Go.RowKit Qt

/-- are an answer's numbers right? -/
def numsB (cl sq er rv : Int) : Bool := decide (1 ≤ cl ∧ cl ≤ 8 ∧ 1 ≤ sq ∧ sq ≤ 4294967296 ∧ 0 ≤ er ∧ er ≤ 17 ∧ 0 ≤ rv ∧ rv ≤ 4294967296)
/-- what is wrong with an answer. -/
def ansE (cl sq er : Int) (vl : List UInt8) (rv : Int) : Int := if numsB cl sq er rv then (if isVal vl then 0 else 7) else 6
theorem ansE_no {cl sq er : Int} {vl : List UInt8} {rv : Int} (h : numsB cl sq er rv = false) : ansE cl sq er vl rv = 6 := by unfold ansE; rw [h]; rfl
theorem ansE_val {cl sq er : Int} {vl : List UInt8} {rv : Int} (h : numsB cl sq er rv = true) (h2 : isVal vl = true) : ansE cl sq er vl rv = 0 := by unfold ansE; rw [h, h2]; rfl
theorem ansE_bad {cl sq er : Int} {vl : List UInt8} {rv : Int} (h : numsB cl sq er rv = true) (h2 : isVal vl = false) : ansE cl sq er vl rv = 7 := by unfold ansE; rw [h, h2]; rfl
theorem ansE_zero {cl sq er : Int} {vl : List UInt8} {rv : Int} (h : ansE cl sq er vl rv = 0) : numsB cl sq er rv = true ∧ isVal vl = true := by
  unfold ansE at h
  cases h1 : numsB cl sq er rv
  · rw [h1, if_neg Bool.false_ne_true] at h; exact absurd h (by decide)
  · cases h2 : isVal vl
    · rw [h1, h2, if_pos rfl, if_neg Bool.false_ne_true] at h; exact absurd h (by decide)
    · exact ⟨rfl, rfl⟩
theorem QVars.alloc {w : World} (h : QVars w) (o : Obj) : QVars (w.alloc o) := h.below ((Below.refl _ _).alloc (Nat.le_refl _) o)
def wiB (n lo hi : Int) : Bool := decide (lo ≤ n ∧ n ≤ hi)
set_option maxHeartbeats 1000000 in
theorem within_calls (n lo hi : Int) (w : World) :
    Calls Tryd.prog 68 #[.int .i64 n, .int .i64 lo, .int .i64 hi] w fun e w' => e = .returned (.bool (wiB n lo hi)) ∧ w = w' := by
  by_cases h1 : lo ≤ n
  · by_cases h2 : n ≤ hi
    · have hf : Hid (wiB n lo hi = true) := decide_eq_true ⟨h1, h2⟩
      go_enter Tryd.func68, Tryd.ntmps68
      go_wp2
      go_ret
      exact ⟨ret_bool hf.out.symm, rfl⟩
    · have hf : Hid (wiB n lo hi = false) := decide_eq_false (fun h => h2 h.2)
      go_enter Tryd.func68, Tryd.ntmps68
      go_wp2
      go_ret
      exact ⟨ret_bool hf.out.symm, rfl⟩
  · have hf : Hid (wiB n lo hi = false) := decide_eq_false (fun h => h1 h.1)
    have d1 : decide (lo ≤ n) = false := decide_eq_false h1
    go_enter Tryd.func68, Tryd.ntmps68
    go_wp2
    go_ret
    exact ⟨ret_bool hf.out.symm, rfl⟩
theorem within_yes {n lo hi : Int} (h : lo ≤ n ∧ n ≤ hi) (w : World) : Calls Tryd.prog 68 #[.int .i64 n, .int .i64 lo, .int .i64 hi] w fun e w' => e = .returned (.bool true) ∧ w = w' := by
  have := within_calls n lo hi w
  rwa [show wiB n lo hi = true from decide_eq_true h] at this
theorem within_no {n lo hi : Int} (h : ¬ (lo ≤ n ∧ n ≤ hi)) (w : World) : Calls Tryd.prog 68 #[.int .i64 n, .int .i64 lo, .int .i64 hi] w fun e w' => e = .returned (.bool false) ∧ w = w' := by
  have := within_calls n lo hi w
  rwa [show wiB n lo hi = false from decide_eq_false h] at this

set_option maxHeartbeats 4000000 in
set_option maxRecDepth 100000 in
theorem anscheck_calls (cl sq er : Int) (fd : Bool) (vl : List UInt8) (rv : Int) (w : World) (hs : vl.length ≤ 1000000) (hv : QVars w) :
    Calls Tryd.prog 32 #[.agg #[.int .i64 cl, .int .i64 sq, .int .i64 er, .bool fd, .string (str vl), .int .i64 rv]] w fun e w' => e = .returned (.int .i64 (ansE cl sq er vl rv)) ∧ Below w.heap.size w w' := by
  have HV := val_calls (str vl) (w.alloc (.cells #[.int .i64 cl, .int .i64 sq, .int .i64 er, .bool fd, .string (str vl), .int .i64 rv] 38)) (by rw [str_size]; exact hs) (hv.alloc _).tab
  rw [toL_str] at HV
  have HV := Lib.hid HV
  clear hv
  by_cases h1 : 1 ≤ cl ∧ cl ≤ 8
  · have H1 := Lib.hid (within_yes h1)
    by_cases h2 : 1 ≤ sq ∧ sq ≤ 4294967296
    · have H2 := Lib.hid (within_yes h2)
      by_cases h3 : 0 ≤ er ∧ er ≤ 17
      · have H3 := Lib.hid (within_yes h3)
        by_cases h4 : 0 ≤ rv ∧ rv ≤ 4294967296
        · have H4 := Lib.hid (within_yes h4)
          have hn : Hid (numsB cl sq er rv = true) := decide_eq_true ⟨h1.1, h1.2, h2.1, h2.2, h3.1, h3.2, h4.1, h4.2⟩
          clear h1 h2 h3 h4
          cases hvl : isVal vl
          · have hf := Lib.hid (ansE_bad hn.out hvl)
            rw [hvl] at HV
            clear hvl hn
            go_enter Tryd.func32, Tryd.ntmps32
            go_wp2_with (fail)
            refine (H1.out _).mono ?_
            rintro e w1 ⟨rfl, rfl⟩
            go_wp2_with (fail)
            refine (H2.out _).mono ?_
            rintro e w1 ⟨rfl, rfl⟩
            go_wp2_with (fail)
            refine (H3.out _).mono ?_
            rintro e w1 ⟨rfl, rfl⟩
            go_wp2_with (fail)
            refine (H4.out _).mono ?_
            rintro e w1 ⟨rfl, rfl⟩
            go_wp2_with (fail)
            refine HV.out.mono ?_
            rintro e w1 ⟨rfl, hb1⟩
            go_wp2_with (fail)
            go_ret
            exact ⟨ret_int hf.out.symm, ((Below.refl _ _).alloc (Nat.le_refl _) _).trans (hb1.mono (by simp))⟩
          · have hf := Lib.hid (ansE_val hn.out hvl)
            rw [hvl] at HV
            clear hvl hn
            go_enter Tryd.func32, Tryd.ntmps32
            go_wp2_with (fail)
            refine (H1.out _).mono ?_
            rintro e w1 ⟨rfl, rfl⟩
            go_wp2_with (fail)
            refine (H2.out _).mono ?_
            rintro e w1 ⟨rfl, rfl⟩
            go_wp2_with (fail)
            refine (H3.out _).mono ?_
            rintro e w1 ⟨rfl, rfl⟩
            go_wp2_with (fail)
            refine (H4.out _).mono ?_
            rintro e w1 ⟨rfl, rfl⟩
            go_wp2_with (fail)
            refine HV.out.mono ?_
            rintro e w1 ⟨rfl, hb1⟩
            go_wp2_with (fail)
            go_ret
            exact ⟨ret_int hf.out.symm, ((Below.refl _ _).alloc (Nat.le_refl _) _).trans (hb1.mono (by simp))⟩
        · have H4 := Lib.hid (within_no h4)
          have hf : Hid (ansE cl sq er vl rv = 6) := ansE_no (decide_eq_false (fun h => h4 h.2.2.2.2.2.2))
          clear h1 h2 h3 h4 HV
          go_enter Tryd.func32, Tryd.ntmps32
          go_wp2_with (fail)
          refine (H1.out _).mono ?_
          rintro e w1 ⟨rfl, rfl⟩
          go_wp2_with (fail)
          refine (H2.out _).mono ?_
          rintro e w1 ⟨rfl, rfl⟩
          go_wp2_with (fail)
          refine (H3.out _).mono ?_
          rintro e w1 ⟨rfl, rfl⟩
          go_wp2_with (fail)
          refine (H4.out _).mono ?_
          rintro e w1 ⟨rfl, rfl⟩
          go_wp2_with (fail)
          go_ret
          exact ⟨ret_int hf.out.symm, (Below.refl _ _).alloc (Nat.le_refl _) _⟩
      · have H3 := Lib.hid (within_no h3)
        have hf : Hid (ansE cl sq er vl rv = 6) := ansE_no (decide_eq_false (fun h => h3 ⟨h.2.2.2.2.1, h.2.2.2.2.2.1⟩))
        clear h1 h2 h3 HV
        go_enter Tryd.func32, Tryd.ntmps32
        go_wp2_with (fail)
        refine (H1.out _).mono ?_
        rintro e w1 ⟨rfl, rfl⟩
        go_wp2_with (fail)
        refine (H2.out _).mono ?_
        rintro e w1 ⟨rfl, rfl⟩
        go_wp2_with (fail)
        refine (H3.out _).mono ?_
        rintro e w1 ⟨rfl, rfl⟩
        go_wp2_with (fail)
        go_ret
        exact ⟨ret_int hf.out.symm, (Below.refl _ _).alloc (Nat.le_refl _) _⟩
    · have H2 := Lib.hid (within_no h2)
      have hf : Hid (ansE cl sq er vl rv = 6) := ansE_no (decide_eq_false (fun h => h2 ⟨h.2.2.1, h.2.2.2.1⟩))
      clear h1 h2 HV
      go_enter Tryd.func32, Tryd.ntmps32
      go_wp2_with (fail)
      refine (H1.out _).mono ?_
      rintro e w1 ⟨rfl, rfl⟩
      go_wp2_with (fail)
      refine (H2.out _).mono ?_
      rintro e w1 ⟨rfl, rfl⟩
      go_wp2_with (fail)
      go_ret
      exact ⟨ret_int hf.out.symm, (Below.refl _ _).alloc (Nat.le_refl _) _⟩
  · have H1 := Lib.hid (within_no h1)
    have hf : Hid (ansE cl sq er vl rv = 6) := ansE_no (decide_eq_false (fun h => h1 ⟨h.1, h.2.1⟩))
    clear h1 HV
    go_enter Tryd.func32, Tryd.ntmps32
    go_wp2_with (fail)
    refine (H1.out _).mono ?_
    rintro e w1 ⟨rfl, rfl⟩
    go_wp2_with (fail)
    go_ret
    exact ⟨ret_int hf.out.symm, (Below.refl _ _).alloc (Nat.le_refl _) _⟩

set_option maxHeartbeats 4000000 in
set_option maxRecDepth 100000 in
theorem refans_calls (cl sq er : Int) (fd : Bool) (vl : List UInt8) (rv : Int) (w : World) (hs : vl.length ≤ 1000000) :
    Calls Tryd.prog 23 #[.agg #[.int .i64 cl, .int .i64 sq, .int .i64 er, .bool fd, .string (str vl), .int .i64 rv]] w fun e w' => e = .returned (.int .i64 (ansE cl sq er vl rv)) ∧ Below w.heap.size w w' := by
  have HV := refVal_calls (str vl) (w.alloc (.cells #[.int .i64 cl, .int .i64 sq, .int .i64 er, .bool fd, .string (str vl), .int .i64 rv] 38)) (by rw [str_size]; exact hs)
  rw [toL_str] at HV
  have HV := Lib.hid HV
  by_cases hn : numsB cl sq er rv = true
  · have hb : 1 ≤ cl ∧ cl ≤ 8 ∧ 1 ≤ sq ∧ sq ≤ 4294967296 ∧ 0 ≤ er ∧ er ≤ 17 ∧ 0 ≤ rv ∧ rv ≤ 4294967296 := of_decide_eq_true hn
    obtain ⟨a1, a2, a3, a4, a5, a6, a7, a8⟩ := hb
    have d1 : decide (cl < 1) = false := decide_eq_false (by omega)
    have d2 : decide (8 < cl) = false := decide_eq_false (by omega)
    have d3 : decide (sq < 1) = false := decide_eq_false (by omega)
    have d4 : decide (4294967296 < sq) = false := decide_eq_false (by omega)
    have d5 : decide (er < 0) = false := decide_eq_false (by omega)
    have d6 : decide (17 < er) = false := decide_eq_false (by omega)
    have d7 : decide (rv < 0) = false := decide_eq_false (by omega)
    have d8 : decide (4294967296 < rv) = false := decide_eq_false (by omega)
    clear a1 a2 a3 a4 a5 a6 a7 a8
    cases hvl : isVal vl
    · have hf := Lib.hid (ansE_bad hn hvl)
      rw [hvl] at HV
      clear hvl hn
      go_enter Tryd.func23, Tryd.ntmps23
      go_wp2_with (fail)
      refine HV.out.mono ?_
      rintro e w1 ⟨rfl, rfl⟩
      go_wp2_with (fail)
      go_ret
      exact ⟨ret_int hf.out.symm, (Below.refl _ _).alloc (Nat.le_refl _) _⟩
    · have hf := Lib.hid (ansE_val hn hvl)
      rw [hvl] at HV
      clear hvl hn
      go_enter Tryd.func23, Tryd.ntmps23
      go_wp2_with (fail)
      refine HV.out.mono ?_
      rintro e w1 ⟨rfl, rfl⟩
      go_wp2_with (fail)
      go_ret
      exact ⟨ret_int hf.out.symm, (Below.refl _ _).alloc (Nat.le_refl _) _⟩
  · have hn : numsB cl sq er rv = false := by simpa using hn
    have hf := Lib.hid (ansE_no (vl := vl) hn)
    have hb : ¬ (1 ≤ cl ∧ cl ≤ 8 ∧ 1 ≤ sq ∧ sq ≤ 4294967296 ∧ 0 ≤ er ∧ er ≤ 17 ∧ 0 ≤ rv ∧ rv ≤ 4294967296) := of_decide_eq_false hn
    have hc : cl < 1 ∨ (1 ≤ cl ∧ 8 < cl) ∨ (1 ≤ cl ∧ cl ≤ 8 ∧ sq < 1) ∨ (1 ≤ cl ∧ cl ≤ 8 ∧ 1 ≤ sq ∧ 4294967296 < sq) ∨ (1 ≤ cl ∧ cl ≤ 8 ∧ 1 ≤ sq ∧ sq ≤ 4294967296 ∧ er < 0) ∨ (1 ≤ cl ∧ cl ≤ 8 ∧ 1 ≤ sq ∧ sq ≤ 4294967296 ∧ 0 ≤ er ∧ 17 < er)
        ∨ (1 ≤ cl ∧ cl ≤ 8 ∧ 1 ≤ sq ∧ sq ≤ 4294967296 ∧ 0 ≤ er ∧ er ≤ 17 ∧ rv < 0) ∨ (1 ≤ cl ∧ cl ≤ 8 ∧ 1 ≤ sq ∧ sq ≤ 4294967296 ∧ 0 ≤ er ∧ er ≤ 17 ∧ 0 ≤ rv ∧ 4294967296 < rv) := by omega
    clear hb hn HV
    rcases hc with a1 | ⟨a1, a2⟩ | ⟨a1, a2, a3⟩ | ⟨a1, a2, a3, a4⟩ | ⟨a1, a2, a3, a4, a5⟩ | ⟨a1, a2, a3, a4, a5, a6⟩ | ⟨a1, a2, a3, a4, a5, a6, a7⟩ | ⟨a1, a2, a3, a4, a5, a6, a7, a8⟩
    all_goals
      try have d1 : decide (cl < 1) = false := decide_eq_false (by omega)
      try have d2 : decide (8 < cl) = false := decide_eq_false (by omega)
      try have d3 : decide (sq < 1) = false := decide_eq_false (by omega)
      try have d4 : decide (4294967296 < sq) = false := decide_eq_false (by omega)
      try have d5 : decide (er < 0) = false := decide_eq_false (by omega)
      try have d6 : decide (17 < er) = false := decide_eq_false (by omega)
      try have d7 : decide (rv < 0) = false := decide_eq_false (by omega)
      try have e1 : decide (cl < 1) = true := decide_eq_true (by omega)
      try have e2 : decide (8 < cl) = true := decide_eq_true (by omega)
      try have e3 : decide (sq < 1) = true := decide_eq_true (by omega)
      try have e4 : decide (4294967296 < sq) = true := decide_eq_true (by omega)
      try have e5 : decide (er < 0) = true := decide_eq_true (by omega)
      try have e6 : decide (17 < er) = true := decide_eq_true (by omega)
      try have e7 : decide (rv < 0) = true := decide_eq_true (by omega)
      try have e8 : decide (4294967296 < rv) = true := decide_eq_true (by omega)
      go_enter Tryd.func23, Tryd.ntmps23
      go_wp2_with (fail)
      go_ret
      exact ⟨ret_int hf.out.symm, (Below.refl _ _).alloc (Nat.le_refl _) _⟩
end Go.Proofs.YtdgbpmbknlhgmaaDoor
