/-
The walk through quote.unescape.
-/
import Derived.Test.YtdgbpmbknlhgmaaDoorUnq
set_option linter.unusedVariables false
set_option linter.unusedSimpArgs false
namespace Go.Proofs.YtdgbpmbknlhgmaaDoor
open Go.RowKit Qt

def ue (l : List UInt8) : UInt8 × Nat := (unesc1 l).getD (0, 0)
theorem ue_none {l : List UInt8} (h : unesc1 l = none) : ue l = (0, 0) := by unfold ue; rw [h]; rfl
theorem ue_some {l : List UInt8} {p : UInt8 × Nat} (h : unesc1 l = some p) : ue l = p := by unfold ue; rw [h]; rfl
theorem u8_eq (a : UInt8) (n : Nat) (h : n < 256) : (((a.toNat : Nat) : Int) == ((n : Nat) : Int)) = decide (a = UInt8.ofNat n) := by
  rw [i32_eq]
  by_cases hx : a = UInt8.ofNat n
  · subst hx
    simp [UInt8.toNat_ofNat_of_lt' h]
  · rw [decide_eq_false hx, decide_eq_false]
    intro e; exact hx (by rw [← e, UInt8.ofNat_toNat])
theorem str_at (l : List UInt8) (k : Nat) (h : k < (str l).size) : (str l)[k]'h = l.getD k 0 := by
  have := at_drop (str l) 0 k (by omega)
  rw [toL_str, List.drop_zero] at this
  rw [← this]; congr 1; omega

theorem str_toList (l : List UInt8) : (str l).toList = l := by rw [ByteArray.toList_eq]; rfl
theorem unesc_q (a : UInt8) (t : List UInt8) (h : a = 34 ∨ a = 92) : unesc1 (a :: t) = some (a, 1) := by simp only [unesc1]; rw [if_pos h]
theorem unesc_short (a : UInt8) (t : List UInt8) (h : ¬ (a = 34 ∨ a = 92)) (ht : t.length < 2) : unesc1 (a :: t) = none := by
  match t, ht with
  | [], _ => simp only [unesc1]; rw [if_neg h]
  | [x], _ => simp only [unesc1]; rw [if_neg h]
theorem unesc_long (a p q : UInt8) (t : List UInt8) (h : ¬ (a = 34 ∨ a = 92)) : unesc1 (a :: p :: q :: t) = if a = 120 then
        match val p, val q with
        | some x, some y => some (UInt8.ofNat (16 * x + y), 3)
        | _, _ => none
      else none := by
  simp only [unesc1]; rw [if_neg h]; rfl

theorem or16 (x y : Nat) (hx : x < 16) (hy : y < 16) : bits .or .i64 ((x : Int) * 16) (y : Int) % 256 = (((UInt8.ofNat (16 * x + y)).toNat : Nat) : Int) := by
  have : ∀ x : Nat, x < 16 → ∀ y : Nat, y < 16 → bits .or .i64 ((x : Int) * 16) (y : Int) % 256 = (((UInt8.ofNat (16 * x + y)).toNat : Nat) : Int) := by decide +kernel
  exact this x hx y hy
set_option maxHeartbeats 2000000 in
set_option maxRecDepth 100000 in
theorem unescape_calls (l : List UInt8) (w : World) (hl : l.length ≤ 1000000) :
    Calls Tryd.prog 49 #[.string (str l)] w fun e w' => e = .returned (.tuple #[.int .u8 ((ue l).1.toNat : Int), .int .i64 ((ue l).2 : Int)]) ∧ Below w.heap.size w w' := by
  have hsz := str_size l
  have hat := str_at l
  have hem := str_toList l
  match l, hl, hsz, hat, hem with
  | [], _, hsz, hat, hem =>
    clear hat
    have h0 : ue [] = (0, 0) := rfl
    have hsz : (str []).size = 0 := hsz
    rw [h0]
    generalize str [] = s at *
    go_enter Tryd.func49, Tryd.ntmps49
    go_wp2
    go_ret2
    exact ⟨rfl, Below.refl _ _⟩
  | a :: t, hl, hsz, hat, hem =>
    have hem : ¬ (str (a :: t)).toList = [] := by rw [hem]; exact List.cons_ne_nil _ _
    have h0 : ∀ h : 0 < (str (a :: t)).size, (str (a :: t))[0]'h = a := fun h => hat 0 h
    have hsz : (str (a :: t)).size = t.length + 1 := hsz
    have hll : t.length + 1 ≤ 1000000 := hl
    have e34 : ((a.toNat : Int) == 34) = decide (a = 34) := u8_eq a 34 (by omega)
    have e92 : ((a.toNat : Int) == 92) = decide (a = 92) := u8_eq a 92 (by omega)
    have e120 : ((a.toNat : Int) == 120) = decide (a = 120) := u8_eq a 120 (by omega)
    go_enter Tryd.func49, Tryd.ntmps49
    by_cases hq : a = 34 ∨ a = 92
    · have hu : ue (a :: t) = (a, 1) := ue_some (unesc_q a t hq)
      rw [hu]
      clear hat
      generalize str (a :: t) = s at *
      by_cases h34 : a = 34
      · rw [decide_eq_true h34] at e34
        clear hq h34
        go_wp2
        go_ret2
        exact ⟨rfl, Below.refl _ _⟩
      · rw [decide_eq_false h34] at e34
        rw [decide_eq_true (by simpa [h34] using hq)] at e92
        clear hq h34
        go_wp2
        go_ret2
        exact ⟨rfl, Below.refl _ _⟩
    rw [decide_eq_false (fun e => hq (.inl e))] at e34
    rw [decide_eq_false (fun e => hq (.inr e))] at e92
    by_cases hs : t.length < 2
    · have hu : ue (a :: t) = (0, 0) := ue_none (unesc_short a t hq hs)
      rw [hu]
      clear hat hq e120
      generalize str (a :: t) = s at *
      go_wp2
      go_ret2
      exact ⟨rfl, Below.refl _ _⟩
    obtain ⟨p, q, u, rfl⟩ : ∃ p q u, t = p :: q :: u := by
      match t, hs with
      | [], h => exact absurd (by decide : 0 < 2) h
      | [x], h => exact absurd (by decide : 1 < 2) h
      | p :: q :: u, _ => exact ⟨p, q, u, rfl⟩
    have h1 : ∀ h : 1 < (str (a :: p :: q :: u)).size, (str (a :: p :: q :: u))[1]'h = p := fun h => hat 1 h
    have h2 : ∀ h : 2 < (str (a :: p :: q :: u)).size, (str (a :: p :: q :: u))[2]'h = q := fun h => hat 2 h
    have hul := unesc_long a p q u hq
    have hsz : (str (a :: p :: q :: u)).size = u.length + 3 := hsz
    have hll : u.length + 3 ≤ 1000000 := hll
    clear hat hs
    by_cases hx : a = 120
    · have huf : Hid (unesc1 (a :: p :: q :: u) = match val p, val q with
          | some x, some y => some (UInt8.ofNat (16 * x + y), 3)
          | _, _ => none) := by show _ = _; rw [hul, if_pos hx]
      clear hul hq
      rw [decide_eq_true hx] at e120
      have hdp := dg_lt p
      have hdq := dg_lt q
      generalize str (a :: p :: q :: u) = s at *
      have hdc := digit_calls
      by_cases hp : dg p < 0
      · have hu : ue (a :: p :: q :: u) = (0, 0) := by
          refine ue_none ?_
          rw [huf.out]
          cases hv : val p with
          | none => rfl
          | some v => rw [dg_val hv] at hp; omega
        rw [hu]
        go_wp2_with (fail)
        refine (digit_calls p _).mono ?_
        rintro e w1 ⟨rfl, rfl⟩
        go_wp2_with (fail)
        go_ret2
        exact ⟨rfl, Below.refl _ _⟩
      by_cases hp2 : dg q < 0
      · have hu : ue (a :: p :: q :: u) = (0, 0) := by
          refine ue_none ?_
          rw [huf.out]
          cases hv : val p with
          | none => rfl
          | some v =>
            cases hw : val q with
            | none => rfl
            | some y => rw [dg_val hw] at hp2; omega
        rw [hu]
        go_wp2_with (fail)
        refine (digit_calls p _).mono ?_
        rintro e w1 ⟨rfl, rfl⟩
        go_wp2_with (fail)
        refine (digit_calls q _).mono ?_
        rintro e w1 ⟨rfl, rfl⟩
        go_wp2_with (fail)
        go_ret2
        exact ⟨rfl, Below.refl _ _⟩
      obtain ⟨x, hx1⟩ : ∃ x, val p = some x := by
        cases hv : val p with
        | none => rw [dg_none hv] at hp; omega
        | some v => exact ⟨v, rfl⟩
      obtain ⟨y, hy1⟩ : ∃ y, val q = some y := by
        cases hv : val q with
        | none => rw [dg_none hv] at hp2; omega
        | some v => exact ⟨v, rfl⟩
      have dp := digit_calls p
      have ddq := digit_calls q
      rw [dg_val hx1] at hp hdp dp
      rw [dg_val hy1] at hp2 hdq ddq
      have hu : ue (a :: p :: q :: u) = (UInt8.ofNat (16 * x + y), 3) := by
        refine ue_some ?_
        rw [huf.out, hx1, hy1]
      rw [hu]
      have hor := or16 x y (by omega) (by omega)
      clear huf hx1 hy1 hu hp hp2 hdc
      go_wp2_with (fail)
      refine (dp _).mono ?_
      rintro e w1 ⟨rfl, rfl⟩
      go_wp2_with (fail)
      refine (ddq _).mono ?_
      rintro e w1 ⟨rfl, rfl⟩
      go_wp2_with (fail)
      refine wp_region_quiet_below (by kernel_rfl) (by kernel_rfl) ?_
      repeat (go_big_quiet_step ((first | exact Calls.regrown_of ((dp _).mono fun _ _ ⟨h, e⟩ => ⟨h, e ▸ Below.refl _ _⟩) | exact Calls.regrown_of ((ddq _).mono fun _ _ ⟨h, e⟩ => ⟨h, e ▸ Below.refl _ _⟩))))
      refine wpQuiet_nil ?_
      intro _ hw'
      obtain ⟨⟨dq, osq⟩, hw''⟩ := hw'
      subst hw''
      rw [hor]
      go_wp2
      go_ret2
      exact ⟨rfl, below_regrown w dq osq⟩
    · have hu : ue (a :: p :: q :: u) = (0, 0) := ue_none (by rw [hul, if_neg hx])
      rw [hu]
      rw [decide_eq_false hx] at e120
      clear hul hq hx hu
      generalize str (a :: p :: q :: u) = s at *
      go_wp2
      go_ret2
      exact ⟨rfl, Below.refl _ _⟩
end Go.Proofs.YtdgbpmbknlhgmaaDoor
