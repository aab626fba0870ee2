/-
The walks through package ballot and the document's answer for it.
-/
import Derived.Test.YtggimkndpmiimaaDoorBase
import Derived.Test.YtggimkndpmiimaaDoorShelf
import Derived.WalkKit
import Derived.WalkLawsBesides
import Derived.WalkSpells
import Derived.Outline
import Derived.BigRegion
import Derived.Lib.QuietBelow
import Derived.BigQuiet
import Derived.Deep.RegionWith
import Derived.Laws.StructEq
import Derived.Laws.ByValue
set_option linter.unusedVariables false
set_option linter.unusedSimpArgs false
namespace Go.Proofs.YtggimkndpmiimaaDoor
open Go.RowKit

def bal (r n : Int) : Value := .agg #[.int .i64 r, .int .i64 n]
def mayB (r n : Int) : Bool := (r == 0 && n == 0) || (decide (1 ≤ r) && decide (r ≤ 4294967296) && (decide (1 ≤ n) && decide (n ≤ 9)))
def lessB (r n s m : Int) : Bool := if r = s then decide (n < m) else decide (r < s)

set_option maxHeartbeats 400000 in
theorem refless_calls (r n s m : Int) (w : World) :
    Calls Tryd.prog 18 #[.agg #[.int .i64 r, .int .i64 n], .agg #[.int .i64 s, .int .i64 m]] w fun e w' => e = .returned (.bool (lessB r n s m)) ∧ Below w.heap.size w w' := by
  by_cases h : r = s
  · have t1 : (r == s) = true := beq_iff_eq.2 h
    have hf : Hid (lessB r n s m = decide (n < m)) := if_pos h
    clear h
    go_enter Tryd.func18, Tryd.ntmps18
    go_wp2
    go_ret
    exact ⟨ret_bool hf.out.symm, by repeat (first | exact Below.refl _ _ | refine Below.alloc ?_ (by simp) _)⟩
  · have t1 : (r == s) = false := beq_eq_false_iff_ne.2 h
    have hf : Hid (lessB r n s m = decide (r < s)) := if_neg h
    clear h
    go_enter Tryd.func18, Tryd.ntmps18
    go_wp2
    go_ret
    exact ⟨ret_bool hf.out.symm, by repeat (first | exact Below.refl _ _ | refine Below.alloc ?_ (by simp) _)⟩

theorem two_new0 {w0 : World} {g : Nat} {t : TypeId} {x y : Value} (h : g = w0.heap.size) : ((w0.alloc (.cells #[x, y] t)).drew).cell? ⟨g, 0, none⟩ = some x := by
  subst h; exact (World.cell?_alloc_new w0 _ _ _)
theorem two_new1 {w0 : World} {g : Nat} {t : TypeId} {x y : Value} (h : g = w0.heap.size) : ((w0.alloc (.cells #[x, y] t)).drew).cell? ⟨g, 1, none⟩ = some y := by
  subst h; exact (World.cell?_alloc_new w0 _ _ _)
theorem size2 (w : World) (o p : Obj) : w.heap.size + 1 + 1 = ((w.alloc o).alloc p).heap.size := by simp

def orI (x y : Int) : Int := if x = 0 then y else x

set_option maxHeartbeats 400000 in
theorem or2_calls (x y : Int) (b : Nat) (w : World) (h0 : w.cell? ⟨b, 0, none⟩ = some (.int .i64 x)) (h1 : w.cell? ⟨b, 1, none⟩ = some (.int .i64 y)) :
    Calls Tryd.prog 27 #[.slice (some ⟨b, 0, none⟩) 2 2] w fun e w' => e = .returned (.int .i64 (orI x y)) ∧ w = w' := by
  go_enter Tryd.func27, Tryd.ntmps27
  go_wp2
  go_loop [8] (fun i => ∃ k : Nat, k ≤ 2 ∧ i = .int .i64 k ∧ Hid ((1 ≤ k → x = 0) ∧ (2 ≤ k → y = 0))) (fun i => 2 - (intOf i).toNat)
  case atStart => exact ⟨0, by omega, rfl, ⟨fun h => by omega, fun h => by omega⟩⟩
  case round =>
    obtain ⟨k, hk, rfl, hxy⟩ := hrel
    match k, hk, hxy with
    | 0, _, hxy =>
      by_cases hx : x = 0
      · have t1 : (x != 0) = false := by simpa using hx
        have hx' := Lib.hid hx
        clear hx
        go_wp2
        go_round
        case rel => exact ⟨1, by omega, rfl, ⟨fun _ => hx'.out, fun h => by omega⟩⟩
        case measure => simp [intOf]
      · have t1 : (x != 0) = true := by simpa using hx
        have hf : Hid (orI x y = x) := if_neg hx
        clear hx
        go_wp2
        go_ret
        exact ⟨ret_int hf.out.symm, rfl⟩
    | 1, _, hxy =>
      have hf : Hid (orI x y = y) := if_pos (hxy.out.1 (by omega))
      by_cases hx : y = 0
      · have t1 : (y != 0) = false := by simpa using hx
        have hx' := Lib.hid hx
        clear hx
        go_wp2
        go_round
        case rel => exact ⟨2, by omega, rfl, ⟨fun _ => hxy.out.1 (by omega), fun _ => hx'.out⟩⟩
        case measure => simp [intOf]
      · have t1 : (y != 0) = true := by simpa using hx
        clear hx
        go_wp2
        go_ret
        exact ⟨ret_int hf.out.symm, rfl⟩
    | 2, _, hxy =>
      have hf : Hid (orI x y = 0) := by show _ = _; unfold orI; rw [if_pos (hxy.out.1 (by omega)), hxy.out.2 (by omega)]
      go_wp2
      go_ret
      exact ⟨ret_int hf.out.symm, rfl⟩

theorem less_num (r n s m : Int) : decide ((orI (Lib.compareInt r s) (Lib.compareInt n m)) < 0) = lessB r n s m := by
  unfold lessB orI Lib.compareInt
  rcases Int.lt_trichotomy r s with h | h | h
  · simp [h, show ¬ r = s by omega]
  · subst h
    rcases Int.lt_trichotomy n m with h | h | h
    · simp [h]
    · subst h; simp
    · simp [h, show ¬ n < m by omega]
  · simp [h, show ¬ r = s by omega, show ¬ r < s by omega]

set_option maxHeartbeats 400000 in
theorem less_calls (r n s m : Int) (w : World) :
    Calls Tryd.prog 15 #[.agg #[.int .i64 r, .int .i64 n], .agg #[.int .i64 s, .int .i64 m]] w fun e w' => e = .returned (.bool (lessB r n s m)) ∧ Below w.heap.size w w' := by
  have hf : Hid (decide ((orI (Lib.compareInt r s) (Lib.compareInt n m)) < 0) = lessB r n s m) := less_num r n s m
  have H := Lib.hid (or2_calls (Lib.compareInt r s) (Lib.compareInt n m))
  generalize (orI (Lib.compareInt r s) (Lib.compareInt n m)) = z at hf H
  go_enter Tryd.func15, Tryd.ntmps15
  go_wp2
  refine wp_region_tail 10 (by kernel_rfl) (by kernel_rfl) ?_
  intro W hW
  have c0 : W.cell? ⟨w.heap.size, 0, none⟩ = some (.int .i64 r) := by subst hW; rw [World.cell?_drew]; go_simp
  have c1 : W.cell? ⟨w.heap.size, 1, none⟩ = some (.int .i64 n) := by subst hW; rw [World.cell?_drew]; go_simp
  have c2 : W.cell? ⟨w.heap.size + 1, 0, none⟩ = some (.int .i64 s) := by subst hW; rw [World.cell?_drew]; go_simp
  have c3 : W.cell? ⟨w.heap.size + 1, 1, none⟩ = some (.int .i64 m) := by subst hW; rw [World.cell?_drew]; go_simp
  have hb : Below w.heap.size w W := by subst hW; repeat (first | exact Below.refl _ _ | refine Below.drew ?_ | refine Below.alloc ?_ (by simp; try omega) _)
  have hb' := Lib.hid hb
  clear hW hb
  simp only [List.take_succ_cons, List.take_zero, List.drop_succ_cons, List.drop_zero]
  repeat (first | still_step | still_call (Tryd.cmp_Compare_int _ _ _))
  refine wpStill_nil ?_
  go_wp2_with (first | (go_at_call 27; refine (H.out _ _ (World.cell?_alloc_new _ _ _ _) (World.cell?_alloc_new _ _ _ _)).mono ?_; rintro e w' ⟨rfl, rfl⟩))
  go_ret
  exact ⟨ret_bool hf.out, (hb'.out.alloc (hb'.out.size) _)⟩

theorem mayB_cases (r n : Int) : (mayB r n = true ∧ ((r = 0 ∧ n = 0) ∨ (1 ≤ r ∧ r ≤ 4294967296 ∧ 1 ≤ n ∧ n ≤ 9))) ∨
    (mayB r n = false ∧ ((r = 0 ∧ n ≠ 0) ∨ (r ≠ 0 ∧ r < 1) ∨ (r ≠ 0 ∧ 4294967296 < r) ∨ (1 ≤ r ∧ r ≤ 4294967296 ∧ n < 1) ∨ (1 ≤ r ∧ r ≤ 4294967296 ∧ 9 < n))) := by
  by_cases h : mayB r n = true
  · refine .inl ⟨h, ?_⟩
    simp only [mayB, Bool.or_eq_true, Bool.and_eq_true, decide_eq_true_eq, beq_iff_eq] at h
    omega
  · refine .inr ⟨by simpa using h, ?_⟩
    simp only [mayB, Bool.or_eq_true, Bool.and_eq_true, decide_eq_true_eq, beq_iff_eq] at h
    omega

set_option maxHeartbeats 800000 in
theorem may_calls (r n : Int) (w : World) :
    Calls Tryd.prog 19 #[.agg #[.int .i64 r, .int .i64 n]] w fun e w' => e = .returned (.bool (mayB r n)) ∧ Below w.heap.size w w' := by
  obtain ⟨b, hm, h⟩ : ∃ b, Hid (mayB r n = b) ∧ ((b = true ∧ ((r = 0 ∧ n = 0) ∨ (1 ≤ r ∧ r ≤ 4294967296 ∧ 1 ≤ n ∧ n ≤ 9))) ∨
    (b = false ∧ ((r = 0 ∧ n ≠ 0) ∨ (r ≠ 0 ∧ r < 1) ∨ (r ≠ 0 ∧ 4294967296 < r) ∨ (1 ≤ r ∧ r ≤ 4294967296 ∧ n < 1) ∨ (1 ≤ r ∧ r ≤ 4294967296 ∧ 9 < n)))) := by
    rcases mayB_cases r n with ⟨hm, h⟩ | ⟨hm, h⟩
    · exact ⟨true, hm, .inl ⟨rfl, h⟩⟩
    · exact ⟨false, hm, .inr ⟨rfl, h⟩⟩
  rcases h with ⟨rfl, h⟩ | ⟨rfl, h⟩
  · rcases h with ⟨rfl, rfl⟩ | ⟨h1, h2, h3, h4⟩
    · go_enter Tryd.func19, Tryd.ntmps19
      go_wp2
      go_ret
      exact ⟨ret_bool (by first | exact hm.out.symm | (rw [hm.out]; exact decide_eq_false (by omega))), (by repeat (first | exact Below.refl _ _ | assumption | refine Below.drew ?_ | refine below_drewN ?_ _ | refine Below.alloc ?_ (by simp; try omega) _ | refine Below.setCell ?_ (by simp; try omega) _))⟩
    · have t1 : (r == 0) = false := beq_eq_false_iff_ne.2 (by omega)
      go_enter Tryd.func19, Tryd.ntmps19
      go_wp2
      go_ret
      exact ⟨ret_bool (by first | exact hm.out.symm | (rw [hm.out]; exact decide_eq_false (by omega))), (by repeat (first | exact Below.refl _ _ | assumption | refine Below.drew ?_ | refine below_drewN ?_ _ | refine Below.alloc ?_ (by simp; try omega) _ | refine Below.setCell ?_ (by simp; try omega) _))⟩
  · rcases h with ⟨rfl, h1⟩ | ⟨h1, h2⟩ | ⟨h1, h2⟩ | ⟨h1, h2, h3⟩ | ⟨h1, h2, h3⟩
    · have t1 : (n == 0) = false := beq_eq_false_iff_ne.2 h1
      clear h1
      go_enter Tryd.func19, Tryd.ntmps19
      go_wp2
      go_ret
      exact ⟨ret_bool (by first | exact hm.out.symm | (rw [hm.out]; exact decide_eq_false (by omega))), (by repeat (first | exact Below.refl _ _ | assumption | refine Below.drew ?_ | refine below_drewN ?_ _ | refine Below.alloc ?_ (by simp; try omega) _ | refine Below.setCell ?_ (by simp; try omega) _))⟩
    all_goals
      have t1 : (r == 0) = false := beq_eq_false_iff_ne.2 (by omega)
      go_enter Tryd.func19, Tryd.ntmps19
      go_wp2
      go_ret
      exact ⟨ret_bool (by first | exact hm.out.symm | (rw [hm.out]; exact decide_eq_false (by omega))), (by repeat (first | exact Below.refl _ _ | assumption | refine Below.drew ?_ | refine below_drewN ?_ _ | refine Below.alloc ?_ (by simp; try omega) _ | refine Below.setCell ?_ (by simp; try omega) _))⟩

set_option maxHeartbeats 800000 in
theorem refmay_calls (r n : Int) (w : World) :
    Calls Tryd.prog 16 #[.agg #[.int .i64 r, .int .i64 n]] w fun e w' => e = .returned (.bool (mayB r n)) ∧ Below w.heap.size w w' := by
  obtain ⟨b, hm, h⟩ : ∃ b, Hid (mayB r n = b) ∧ ((b = true ∧ ((r = 0 ∧ n = 0) ∨ (1 ≤ r ∧ r ≤ 4294967296 ∧ 1 ≤ n ∧ n ≤ 9))) ∨
    (b = false ∧ ((r = 0 ∧ n ≠ 0) ∨ (r ≠ 0 ∧ r < 1) ∨ (r ≠ 0 ∧ 4294967296 < r) ∨ (1 ≤ r ∧ r ≤ 4294967296 ∧ n < 1) ∨ (1 ≤ r ∧ r ≤ 4294967296 ∧ 9 < n)))) := by
    rcases mayB_cases r n with ⟨hm, h⟩ | ⟨hm, h⟩
    · exact ⟨true, hm, .inl ⟨rfl, h⟩⟩
    · exact ⟨false, hm, .inr ⟨rfl, h⟩⟩
  rcases h with ⟨rfl, h⟩ | ⟨rfl, h⟩
  · rcases h with ⟨rfl, rfl⟩ | ⟨h1, h2, h3, h4⟩
    · go_enter Tryd.func16, Tryd.ntmps16
      go_wp2
      go_ret
      exact ⟨ret_bool (by first | exact hm.out.symm | (rw [hm.out]; exact decide_eq_false (by omega))), (by repeat (first | exact Below.refl _ _ | assumption | refine Below.drew ?_ | refine below_drewN ?_ _ | refine Below.alloc ?_ (by simp; try omega) _ | refine Below.setCell ?_ (by simp; try omega) _))⟩
    · have t1 : (r == 0) = false := beq_eq_false_iff_ne.2 (by omega)
      go_enter Tryd.func16, Tryd.ntmps16
      go_wp2
      go_ret
      exact ⟨ret_bool (by first | exact hm.out.symm | (rw [hm.out]; exact decide_eq_false (by omega))), (by repeat (first | exact Below.refl _ _ | assumption | refine Below.drew ?_ | refine below_drewN ?_ _ | refine Below.alloc ?_ (by simp; try omega) _ | refine Below.setCell ?_ (by simp; try omega) _))⟩
  · rcases h with ⟨rfl, h1⟩ | ⟨h1, h2⟩ | ⟨h1, h2⟩ | ⟨h1, h2, h3⟩ | ⟨h1, h2, h3⟩
    · have t1 : (n == 0) = false := beq_eq_false_iff_ne.2 h1
      clear h1
      go_enter Tryd.func16, Tryd.ntmps16
      go_wp2
      go_ret
      exact ⟨ret_bool (by first | exact hm.out.symm | (rw [hm.out]; exact decide_eq_false (by omega))), (by repeat (first | exact Below.refl _ _ | assumption | refine Below.drew ?_ | refine below_drewN ?_ _ | refine Below.alloc ?_ (by simp; try omega) _ | refine Below.setCell ?_ (by simp; try omega) _))⟩
    all_goals
      have t1 : (r == 0) = false := beq_eq_false_iff_ne.2 (by omega)
      go_enter Tryd.func16, Tryd.ntmps16
      go_wp2
      go_ret
      exact ⟨ret_bool (by first | exact hm.out.symm | (rw [hm.out]; exact decide_eq_false (by omega))), (by repeat (first | exact Below.refl _ _ | assumption | refine Below.drew ?_ | refine below_drewN ?_ _ | refine Below.alloc ?_ (by simp; try omega) _ | refine Below.setCell ?_ (by simp; try omega) _))⟩

/-! ### digits -/
def decDig (d : Nat) : UInt8 := UInt8.ofNat (48 + d)
theorem dec_cut (d : Nat) (h : d < 10) : (⟨#[48, 49, 50, 51, 52, 53, 54, 55, 56, 57]⟩ : ByteArray).extract d (d + 1) = ⟨#[decDig d]⟩ := by
  have : ∀ d, d < 10 → (⟨#[48, 49, 50, 51, 52, 53, 54, 55, 56, 57]⟩ : ByteArray).extract d (d + 1) = ⟨#[decDig d]⟩ := by decide
  exact this d h
def str (l : List UInt8) : ByteArray := ⟨l.toArray⟩
theorem str_append (a b : List UInt8) : str a ++ str b = str (a ++ b) := by apply ByteArray.ext; simp [str]
theorem str_size (l : List UInt8) : (str l).size = l.length := by simp [str, ByteArray.size]
theorem dec_len (n : Nat) : ∀ k, 1 ≤ k → n < 10 ^ k → (Lib.decDigits n).length ≤ k := by
  intro k
  induction k generalizing n with
  | zero => intro h; omega
  | succ k ih =>
    intro _ hn
    rw [Lib.decDigits]
    by_cases h : n < 10
    · rw [dif_pos h]; simp
    · rw [dif_neg h, List.length_append]
      have hk : 1 ≤ k := by
        rcases Nat.eq_zero_or_pos k with h0 | h0
        · subst h0; simp at hn; omega
        · exact h0
      have := ih (n / 10) hk (by rw [Nat.pow_succ] at hn; omega)
      simp only [List.length_cons, List.length_nil]; omega
theorem dec_len20 (n : Nat) (h : n < 18446744073709551616) : (Lib.decDigits n).length ≤ 20 := dec_len n 20 (by omega) (by simp only [Nat.reducePow]; omega)

set_option maxHeartbeats 800000 in
theorem digits_calls (n : Nat) (w : World) (hn : n ≤ 9223372036854775807) :
    Calls Tryd.prog 29 #[.int .i64 (n : Int)] w fun e w' => e = .returned (.string (str (Lib.decDigits n))) ∧ w = w' := by
  go_enter Tryd.func29, Tryd.ntmps29
  go_wp2_with fail
  go_loop [0, 3] (fun i s => ∃ (q : Nat) (t : List UInt8), i = .int .i64 (q : Int) ∧ s = .string (str t) ∧ q ≤ 9223372036854775807 ∧ t.length ≤ 20 ∧ Hid (Lib.decDigits n = Lib.decDigits q ++ t ∧ (t = [] ∨ 0 < q))) (fun i _ => (intOf i).toNat)
  case atStart => exact ⟨n, [], rfl, rfl, hn, by simp, ⟨by simp, .inl rfl⟩⟩
  case round =>
    obtain ⟨q, t, rfl, rfl, hq, ht, hd⟩ := hrel
    have e1 := dec_cut (q % 10) (by omega)
    have b1 : ((q % 10 : Nat) : Int) = (q : Int) % 10 := by omega
    have hs := str_size t
    have hcat : Hid ((⟨#[decDig (q % 10)]⟩ : ByteArray) ++ str t = str (decDig (q % 10) :: t)) := str_append [decDig (q % 10)] t
    by_cases h10 : q < 10
    · have hfin : Hid (Lib.decDigits n = decDig (q % 10) :: t) := by
        show _ = _
        rw [hd.out.1, Lib.decDigits_one h10, show q % 10 = q by omega]; rfl
      go_wp2
      go_ret
      exact ⟨ret_str (by rw [hfin.out, hcat.out]), rfl⟩
    · have hnext : Hid (Lib.decDigits n = Lib.decDigits (q / 10) ++ (decDig (q % 10) :: t)) := by
        show _ = _
        rw [hd.out.1]
        conv => lhs; rw [Lib.decDigits, dif_neg h10]
        simp [decDig]
      have hlt : t.length + 1 ≤ 20 := by
        have h1 := dec_len20 n (by omega)
        rw [hnext.out] at h1
        simp at h1
        omega
      go_wp2
      go_round
      case rel => exact ⟨q / 10, decDig (q % 10) :: t, by go_num, by rw [hcat.out], by omega, by simpa using hlt, ⟨hnext.out, .inr (by omega)⟩⟩
      case measure => simp [intOf]; omega

theorem itoa_calls (n : Nat) (w : World) (hn : n ≤ 9223372036854775807) (htab : Lib.TabIs Tryd.prog w "internal/strconv.uint64pow10" .u64 Lib.pow10Tab) :
    Calls Tryd.prog 31 #[.int .i64 (n : Int)] w fun e w' => e = .returned (.string (str (Lib.decDigits n))) ∧ Below w.heap.size w w' := by
  refine (Tryd.strconv_Itoa n (by omega) (by omega) w htab).mono ?_
  rintro e w' ⟨rfl, k, os, rfl⟩
  rw [Lib.itoa_nonneg]
  refine ⟨rfl, ?_⟩
  exact Below.trans (below_drewN (Below.refl _ _) k) (below_regrown (w.drewN k) (w.drewN k).drawn os)

theorem digits_below (n : Nat) (w : World) (hn : n ≤ 9223372036854775807) :
    Calls Tryd.prog 29 #[.int .i64 (n : Int)] w fun e w' => e = .returned (.string (str (Lib.decDigits n))) ∧ Below w.heap.size w w' :=
  (digits_calls n w hn).mono fun _ _ ⟨h, hw⟩ => ⟨h, hw ▸ Below.refl _ _⟩
def balText (r n : Nat) : List UInt8 := Lib.decDigits r ++ 46 :: Lib.decDigits n
theorem balText_cat (r n : Nat) : (str (Lib.decDigits r) ++ (⟨#[46]⟩ : ByteArray)) ++ str (Lib.decDigits n) = str (balText r n) := by
  rw [show (⟨#[46]⟩ : ByteArray) = str [46] from rfl, str_append, str_append]; simp [balText]

set_option maxHeartbeats 800000 in
theorem balreftext_calls (r n : Nat) (w : World) (hr : r ≤ 9223372036854775807) (hn : n ≤ 9223372036854775807) :
    Calls Tryd.prog 17 #[.agg #[.int .i64 (r : Int), .int .i64 (n : Int)]] w fun e w' => e = .returned (.string (str (balText r n))) ∧ Below w.heap.size w w' := by
  have h1 : (str (Lib.decDigits r)).size ≤ 20 := by rw [str_size]; exact dec_len20 r (by omega)
  have h2 : (str (Lib.decDigits n)).size ≤ 20 := by rw [str_size]; exact dec_len20 n (by omega)
  have h3 : (str (Lib.decDigits r) ++ (⟨#[46]⟩ : ByteArray)).size ≤ 21 := by rw [ByteArray.size_append]; exact Nat.add_le_add h1 (Nat.le_refl 1)
  have hcat : Hid ((str (Lib.decDigits r) ++ (⟨#[46]⟩ : ByteArray)) ++ str (Lib.decDigits n) = str (balText r n)) := balText_cat r n
  go_enter Tryd.func17, Tryd.ntmps17
  go_wp2
  obtain ⟨W, hW⟩ : ∃ W, W = w.alloc (.cells #[.int .i64 (r : Int), .int .i64 (n : Int)] 33) := ⟨_, rfl⟩
  have c0 : ∀ d os, (Sort.grow (redrawn W d) os).cell? ⟨w.heap.size, 0, none⟩ = some (.int .i64 (r : Int)) := cell_regrown (by subst hW; go_simp)
  have c1 : ∀ d os, (Sort.grow (redrawn W d) os).cell? ⟨w.heap.size, 1, none⟩ = some (.int .i64 (n : Int)) := cell_regrown (by subst hW; go_simp)
  have hb : Hid (Below w.heap.size w W) := by subst hW; exact (Below.refl _ _).alloc (Nat.le_refl _) _
  rw [← hW]
  clear hW
  refine wp_region_quiet_below (by kernel_rfl) (by kernel_rfl) ?_
  repeat (go_big_quiet_step ((go_at_call 29; exact Calls.regrown_of (digits_below _ _ (by assumption)))))
  refine wpQuiet_nil ?_
  intro _ hw'
  obtain ⟨⟨dq, osq⟩, hw''⟩ := hw'
  subst hw''
  go_wp2
  go_ret
  exact ⟨ret_str (by rw [hcat.out]), hb.out.trans ((below_regrown W dq osq).mono hb.out.size)⟩

def TabP (w : World) : Prop := Lib.TabIs Tryd.prog w "internal/strconv.uint64pow10" .u64 Lib.pow10Tab
theorem TabP.below {B : Nat} {w w' : World} (h : TabP w) (hb : Below B w w') (hB : w.heap.size ≤ B) : TabP w' := Joins.tab_stays (g := 1) (by kernel_rfl) h hb hB

set_option maxHeartbeats 800000 in
theorem text_yes (r n : Nat) (w : World) (hr : r ≤ 4294967296) (hn : n ≤ 9) (hm : mayB r n = true) (ht : TabP w) :
    Calls Tryd.prog 20 #[.agg #[.int .i64 (r : Int), .int .i64 (n : Int)]] w fun e w' => e = .returned (.string (str (balText r n))) ∧ Below w.heap.size w w' := by
  have h1 : (str (Lib.decDigits r)).size ≤ 20 := by rw [str_size]; exact dec_len20 r (by omega)
  have h2 : (str (Lib.decDigits n)).size ≤ 20 := by rw [str_size]; exact dec_len20 n (by omega)
  have h3 : (str (Lib.decDigits r) ++ (⟨#[46]⟩ : ByteArray)).size ≤ 21 := by rw [ByteArray.size_append]; exact Nat.add_le_add h1 (Nat.le_refl 1)
  have hcat : Hid ((str (Lib.decDigits r) ++ (⟨#[46]⟩ : ByteArray)) ++ str (Lib.decDigits n) = str (balText r n)) := balText_cat r n
  have hr9 : r ≤ 9223372036854775807 := by omega
  have hn9 : n ≤ 9223372036854775807 := by omega
  have H := may_calls r n
  rw [hm] at H
  have H := Lib.hid H
  have ht' := Lib.hid ht
  clear hm ht
  go_enter Tryd.func20, Tryd.ntmps20
  go_wp2_with fail
  refine (H.out _).mono ?_
  rintro e w1 ⟨rfl, hb1⟩
  have c0 : w1.cell? ⟨w.heap.size, 0, none⟩ = some (.int .i64 (r : Int)) := by rw [hb1.cell (p := ⟨w.heap.size, 0, none⟩) (by simp)]; go_simp
  have c1 : w1.cell? ⟨w.heap.size, 1, none⟩ = some (.int .i64 (n : Int)) := by rw [hb1.cell (p := ⟨w.heap.size, 1, none⟩) (by simp)]; go_simp
  have hb : Hid (Below w.heap.size w w1) := ((Below.refl _ _).alloc (Nat.le_refl _) _).trans (hb1.mono (by simp))
  clear hb1
  go_wp2_with fail
  have c0 : ∀ d os, (Sort.grow (redrawn w1 d) os).cell? ⟨w.heap.size, 0, none⟩ = some (.int .i64 (r : Int)) := cell_regrown c0
  have c1 : ∀ d os, (Sort.grow (redrawn w1 d) os).cell? ⟨w.heap.size, 1, none⟩ = some (.int .i64 (n : Int)) := cell_regrown c1
  have htw : ∀ d os, Hid (TabP (Sort.grow (redrawn w1 d) os)) := fun d os => (ht'.out.below hb.out (Nat.le_refl _)).below (below_regrown w1 d os) (Nat.le_refl _)
  refine wp_region_quiet_below (by kernel_rfl) (by kernel_rfl) ?_
  repeat (go_big_quiet_step ((go_at_call 31; exact Calls.regrown_of (itoa_calls _ _ (by assumption) (htw _ _).out))))
  refine wpQuiet_nil ?_
  intro _ hw'
  obtain ⟨⟨dq, osq⟩, hw''⟩ := hw'
  subst hw''
  go_wp2
  go_ret
  exact ⟨ret_str (by rw [hcat.out]), hb.out.trans ((below_regrown w1 dq osq).mono hb.out.size)⟩
theorem text_no (r n : Int) (w : World) (hm : mayB r n = false) :
    Calls Tryd.prog 20 #[.agg #[.int .i64 r, .int .i64 n]] w fun e w' => e = .returned (.string ⟨#[]⟩) ∧ Below w.heap.size w w' := by
  have H := may_calls r n
  rw [hm] at H
  have H := Lib.hid H
  clear hm
  go_enter Tryd.func20, Tryd.ntmps20
  go_wp2_with fail
  refine (H.out _).mono ?_
  rintro e w1 ⟨rfl, hb1⟩
  have hb : Hid (Below w.heap.size w w1) := ((Below.refl _ _).alloc (Nat.le_refl _) _).trans (hb1.mono (by simp))
  clear hb1
  go_wp2
  go_ret
  exact ⟨rfl, hb.out⟩
end Go.Proofs.YtggimkndpmiimaaDoor
