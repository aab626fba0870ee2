/-
The walks through ballot.Max and the law BallotMax.
-/
import Derived.Test.YtggimkndpmiimaaDoorBallotD
set_option linter.unusedVariables false
set_option linter.unusedSimpArgs false
namespace Go.Proofs.YtggimkndpmiimaaDoor
open Go.RowKit

def balCells (l : List (Int × Int)) : List Value := l.flatMap fun b => [.int .i64 b.1, .int .i64 b.2]
theorem balCells_length (l : List (Int × Int)) : (balCells l).length = l.length * 2 := by
  induction l with
  | nil => rfl
  | cons b l ih => simp only [balCells, List.flatMap_cons, List.length_append, List.length_cons, List.length_nil] at *; omega
theorem balCells_at (l : List (Int × Int)) : ∀ k, k < l.length → (balCells l)[k * 2]? = some (.int .i64 (l.getD k (0, 0)).1) ∧ (balCells l)[k * 2 + 1]? = some (.int .i64 (l.getD k (0, 0)).2) := by
  induction l with
  | nil => intro k hk; simp at hk
  | cons b l ih =>
    intro k hk
    cases k with
    | zero => exact ⟨rfl, rfl⟩
    | succ k =>
      obtain ⟨h1, h2⟩ := ih k (by simpa using hk)
      have e : balCells (b :: l) = [.int .i64 b.1, .int .i64 b.2] ++ balCells l := rfl
      rw [e, show (k + 1) * 2 = k * 2 + 2 by omega]
      constructor
      · rw [List.getElem?_append_right (by simp)]; simpa using h1
      · rw [List.getElem?_append_right (by simp)]; simpa using h2

def BalAt (w : World) (A : Option Addr) (n : Nat) (l : List (Int × Int)) : Prop := Reads w w.heap.size 2 A n (balCells l)
theorem BalAt.len {w : World} {A : Option Addr} {n : Nat} {l : List (Int × Int)} (h : BalAt w A n l) : l.length = n := by have := h.1; rw [balCells_length] at this; omega
theorem BalAt.below {w w' : World} {A : Option Addr} {n : Nat} {l : List (Int × Int)} (h : BalAt w A n l) (hb : Below w.heap.size w w') : BalAt w' A n l := (Reads.below h hb).more hb.size
theorem BalAt.at_ {w : World} {A : Option Addr} {n : Nat} {l : List (Int × Int)} (h : BalAt w A n l) {k : Nat} (hk : k < n) :
    ∃ b off, A = some ⟨b, off, none⟩ ∧ b < w.heap.size ∧ w.cell? ⟨b, off + k * 2, none⟩ = some (.int .i64 (l.getD k (0, 0)).1) ∧ w.cell? ⟨b, off + k * 2 + 1, none⟩ = some (.int .i64 (l.getD k (0, 0)).2) := by
  obtain ⟨ad, e, hb, hc⟩ := h.2 (by omega)
  obtain ⟨h1, h2⟩ := balCells_at l k (by rw [h.len]; exact hk)
  have g1 := hc _ _ h1
  have g2 := hc _ _ h2
  obtain ⟨b, off, spot⟩ := ad
  have hspot : spot = none := by
    have g0 := hc _ _ (balCells_at l 0 (by rw [h.len]; omega)).1
    have hs := World.cell?_spot g0
    rw [show Addr.add ⟨b, off, spot⟩ (0 * 2) = ⟨b, off, spot⟩ from rfl] at hs
    exact hs
  subst hspot
  have ha : ∀ j, Addr.add ⟨b, off, none⟩ j = ⟨b, off + j, none⟩ := fun j => by unfold Addr.add; split <;> simp_all
  rw [ha] at g1 g2
  exact ⟨b, off, e, hb, g1, by rw [Nat.add_assoc]; exact g2⟩

/-! ### the greatest -/
def mx (m b : Int × Int) : Int × Int := if lessB m.1 m.2 b.1 b.2 then b else m
def best : List (Int × Int) → Int × Int
  | [] => (0, 0)
  | b :: l => l.foldl mx b
theorem best_snoc (l : List (Int × Int)) (b : Int × Int) (h : l ≠ []) : best (l ++ [b]) = mx (best l) b := by
  cases l with
  | nil => exact absurd rfl h
  | cons a l => simp [best]
theorem less_trans {a b c : Int × Int} (h1 : lessB a.1 a.2 b.1 b.2 = false) (h2 : lessB b.1 b.2 c.1 c.2 = false) : lessB a.1 a.2 c.1 c.2 = false := by
  unfold lessB at *
  by_cases e1 : a.1 = b.1 <;> by_cases e2 : b.1 = c.1 <;> by_cases e3 : a.1 = c.1 <;> simp_all <;> omega
theorem less_asym {a b : Int × Int} (h : lessB a.1 a.2 b.1 b.2 = true) : lessB b.1 b.2 a.1 a.2 = false := by
  unfold lessB at *
  by_cases e1 : a.1 = b.1
  · rw [if_pos e1] at h; rw [if_pos e1.symm]; simp at *; omega
  · rw [if_neg e1] at h; rw [if_neg (fun h => e1 h.symm)]; simp at *; omega
theorem less_self (a : Int × Int) : lessB a.1 a.2 a.1 a.2 = false := by simp [lessB]
theorem fold_spec (l : List (Int × Int)) : ∀ m, (l.foldl mx m = m ∨ l.foldl mx m ∈ l) ∧ lessB (l.foldl mx m).1 (l.foldl mx m).2 m.1 m.2 = false ∧ ∀ b ∈ l, lessB (l.foldl mx m).1 (l.foldl mx m).2 b.1 b.2 = false := by
  induction l with
  | nil => intro m; exact ⟨.inl rfl, less_self m, fun b hb => by cases hb⟩
  | cons c l ih =>
    intro m
    obtain ⟨h1, h2, h3⟩ := ih (mx m c)
    rw [List.foldl_cons]
    have h4 : lessB (mx m c).1 (mx m c).2 m.1 m.2 = false ∧ lessB (mx m c).1 (mx m c).2 c.1 c.2 = false ∧ (mx m c = m ∨ mx m c = c) := by
      unfold mx
      cases hb : lessB m.1 m.2 c.1 c.2
      · simp only [Bool.false_eq_true, if_false]; exact ⟨less_self m, hb, by simp⟩
      · simp only [if_true]; exact ⟨less_asym hb, less_self c, by simp⟩
    refine ⟨?_, less_trans h2 h4.1, fun b hb => ?_⟩
    · rcases h1 with h1 | h1
      · rw [h1]
        rcases h4.2.2 with h | h
        · exact .inl h
        · exact .inr (by rw [h]; simp)
      · exact .inr (List.mem_cons_of_mem _ h1)
    · rcases List.mem_cons.1 hb with rfl | hb
      · exact less_trans h2 h4.2.1
      · exact h3 b hb
theorem best_spec (l : List (Int × Int)) (h : l ≠ []) : best l ∈ l ∧ ∀ b ∈ l, lessB (best l).1 (best l).2 b.1 b.2 = false := by
  cases l with
  | nil => exact absurd rfl h
  | cons a l =>
    obtain ⟨h1, h2, h3⟩ := fold_spec l a
    refine ⟨?_, fun b hb => ?_⟩
    · rcases h1 with h1 | h1
      · show l.foldl mx a ∈ _; rw [h1]; simp
      · exact List.mem_cons_of_mem _ h1
    · rcases List.mem_cons.1 hb with rfl | hb
      · exact h2
      · exact h3 b hb
theorem best_next (l : List (Int × Int)) (k : Nat) (hk : k < l.length) : best (l.take (k + 1)) = if k = 0 then l.getD k (0, 0) else mx (best (l.take k)) (l.getD k (0, 0)) := by
  rw [List.take_add_one, List.getElem?_eq_getElem hk, Option.toList_some, List.getD_eq_getElem?_getD, List.getElem?_eq_getElem hk, Option.getD_some]
  by_cases h0 : k = 0
  · subst h0; simp [best]
  · rw [if_neg h0]
    exact best_snoc _ _ (by
      intro h
      have := congrArg List.length h
      rw [List.length_take, List.length_nil] at this
      omega)

set_option maxHeartbeats 800000 in
theorem max_calls (A : Option Addr) (n cap : Nat) (l : List (Int × Int)) (w : World) (hn : n ≤ 9223372036854775807) (hl : BalAt w A n l) :
    Calls Tryd.prog 24 #[.slice A n cap] w fun e w' => e = .returned (.agg #[.int .i64 (best l).1, .int .i64 (best l).2]) ∧ Below w.heap.size w w' := by
  have hl' := Lib.hid hl
  clear hl
  go_enter Tryd.func24, Tryd.ntmps24
  go_wp2_with fail
  go_loopw [8] (fun i wr => ∃ (k : Nat) (m : Int × Int), k ≤ n ∧ i = .int .i64 k ∧ Hid (m = best (l.take k)) ∧ Hid (Blk wr w.heap.size 33 #[.int .i64 0, .int .i64 0]) ∧ Hid (Blk wr (w.heap.size + 1) 33 #[.int .i64 m.1, .int .i64 m.2]) ∧ Hid (Below w.heap.size w wr)) (fun i _ => n - (intOf i).toNat)
  case atStart => exact ⟨0, (0, 0), Nat.zero_le _, rfl, rfl, (Blk.new _ _ _).alloc _, Blk.new' _ _ (by simp), (by repeat (first | exact Below.refl _ _ | assumption | refine Below.drew ?_ | refine below_drewN ?_ _ | refine Below.alloc ?_ (by simp; try omega) _ | refine Below.setCell ?_ (by simp; try omega) _))⟩
  case round =>
    obtain ⟨k, m, hk, rfl, hm, B0, B1, hb⟩ := hrel
    by_cases hlt : k < n
    · obtain ⟨ab, off, rfl, hab, hc0, hc1⟩ := (hl'.out.below hb.out).at_ hlt
      obtain ⟨k1, f1, l1⟩ := B1.out.facts
      have hz := hb.out.size
      have hnx := best_next l k (by rw [hl'.out.len]; exact hlt)
      rw [← hm.out] at hnx
      have hnx' := Lib.hid hnx
      clear hnx
      generalize l.getD k (0, 0) = bb at hc0 hc1 hnx'
      obtain ⟨b1, b2⟩ := bb
      obtain ⟨m1, m2⟩ := m
      simp only at hc0 hc1 k1
      have BX := Lib.hid (Blk.new wr 33 #[.int .i64 b1, .int .i64 b2])
      have B0' := Lib.hid (B0.out.alloc (.cells #[.int .i64 b1, .int .i64 b2] 33))
      have B1' := Lib.hid (B1.out.alloc (.cells #[.int .i64 b1, .int .i64 b2] 33))
      have hb' := Lib.hid (hb.out.alloc hb.out.size (.cells #[.int .i64 b1, .int .i64 b2] 33))
      have hne : w.heap.size + 1 ≠ wr.heap.size := by omega
      by_cases h0 : k = 0
      · subst h0
        simp only [Nat.zero_mul, Nat.add_zero] at hc0 hc1
        have hfin : Hid ((b1, b2) = best (l.take (0 + 1))) := by rw [hnx'.out]; rfl
        go_wp2_with fail
        go_roundw
        case rel => exact ⟨1, (b1, b2), by omega, rfl, hfin, ((B0.out.far (p := ⟨w.heap.size + 1, 0, none⟩) (by simp) _).far (p := ⟨w.heap.size + 1, 1, none⟩) (by simp) _).alloc _, ((B1.out.set_ 0 _).set_ 1 _).alloc _, (Below.setCell (Below.setCell hb.out (by simp) _) (by simp) _).alloc (by simpa using hz) _⟩
        case measure => simp [intOf]; omega
      · have t1 : ((k : Int) == 0) = false := beq_eq_false_iff_ne.2 (by omega)
        go_wp2_with fail
        refine (less_calls _ _ _ _ _).mono ?_
        rintro e w3 ⟨rfl, hb3⟩
        have C0 := Lib.hid (B0'.out.call hb3)
        have C1 := Lib.hid (B1'.out.call hb3)
        have CX := Lib.hid (BX.out.call hb3)
        have hb4 : Hid (Below w.heap.size w w3) := hb'.out.trans (hb3.mono hb'.out.size)
        clear hb3 BX B0' B1' hb' k1 f1 l1
        obtain ⟨k1, f1, l1⟩ := C1.out.facts
        obtain ⟨k2, f2, l2⟩ := CX.out.facts
        have hms : Hid (best (l.take (k + 1)) = mx (m1, m2) (b1, b2)) := by rw [hnx'.out, if_neg h0]; exact rfl
        cases hls : lessB m1 m2 b1 b2
        · have hfin : Hid ((m1, m2) = best (l.take (k + 1))) := by show _ = _; rw [hms.out]; simp [mx, hls]
          clear hls
          go_wp2_with fail
          go_roundw
          case rel => exact ⟨k + 1, (m1, m2), by omega, by go_num, hfin, C0, C1, hb4⟩
          case measure => simp [intOf]; omega
        · have hfin : Hid ((b1, b2) = best (l.take (k + 1))) := by show _ = _; rw [hms.out]; simp [mx, hls]
          clear hls
          go_wp2_with fail
          go_roundw
          case rel => exact ⟨k + 1, (b1, b2), by omega, by go_num, hfin, (C0.out.far (p := ⟨w.heap.size + 1, 0, none⟩) (by simp) _).far (p := ⟨w.heap.size + 1, 1, none⟩) (by simp) _, (C1.out.set_ 0 _).set_ 1 _, Below.setCell (Below.setCell hb4.out (by simp) _) (by simp) _⟩
          case measure => simp [intOf]; omega
    · obtain rfl : k = n := by omega
      obtain ⟨k0, f0, l0⟩ := B0.out.facts
      obtain ⟨k1, f1, l1⟩ := B1.out.facts
      rw [List.take_of_length_le (by rw [hl'.out.len]; exact Nat.le_refl _)] at hm
      go_wp2_with fail
      refine bodyPost_ret (v := .agg #[.int .i64 m.1, .int .i64 m.2]) (by simp [results, Tryd.results24, go_sem, k0, k1, l0, l1]) rfl ⟨by rw [hm.out], ?_⟩
      exact Below.setCell (Below.setCell hb.out (by simp) _) (by simp) _

set_option maxHeartbeats 800000 in
theorem lawmax_calls (A : Option Addr) (n cap : Nat) (l : List (Int × Int)) (w : World) (hn : n ≤ 9223372036854775807) (hl : BalAt w A n l) (ht : TabP w) :
    Calls Tryd.prog 8 #[.slice A n cap] w fun e w' => e = .returned (.bool true) ∧ Below w.heap.size w w' := by
  have hl' := Lib.hid hl
  have ht' := Lib.hid ht
  clear hl ht
  by_cases h200 : 200 < n
  · go_enter Tryd.func8, Tryd.ntmps8
    go_wp2_with fail
    refine (awakeB_calls _ ht'.out).mono ?_
    rintro e w1 ⟨rfl, hb1⟩
    go_wp2_with fail
    go_ret
    exact ⟨rfl, hb1⟩
  have H1 := Lib.hid (max_calls A n cap l w hn hl'.out)
  have hm : n ≠ 0 → Hid (best l ∈ l ∧ ∀ b ∈ l, lessB (best l).1 (best l).2 b.1 b.2 = false) := fun h => best_spec l (by
    intro he; apply h; rw [← hl'.out.len, he]; rfl)
  have h0e : n = 0 → best l = (0, 0) := fun h => by
    have : l = [] := List.eq_nil_of_length_eq_zero (by rw [hl'.out.len, h])
    rw [this]; rfl
  by_cases h0 : n = 0
  · subst h0
    rw [h0e rfl] at H1
    clear h0e hm
    go_enter Tryd.func8, Tryd.ntmps8
    go_wp2_with fail
    refine H1.out.mono ?_
    rintro e w1 ⟨rfl, hb1⟩
    go_wp2_with fail
    refine (awakeB_calls _ ((ht'.out.below hb1 (Nat.le_refl _)).alloc _)).mono ?_
    rintro e w2 ⟨rfl, hb2⟩
    go_wp2_with fail
    go_ret
    exact ⟨rfl, hb1.trans (((Below.refl _ _).alloc (Nat.le_refl _) _).trans (hb2.mono (by simp)) |>.mono hb1.size)⟩
  have hq := hm h0
  clear h0e hm
  have t0 : ((n : Int) == 0) = false := beq_eq_false_iff_ne.2 (by omega)
  generalize best l = m at *
  obtain ⟨m1, m2⟩ := m
  simp only at H1 hq
  go_enter Tryd.func8, Tryd.ntmps8
  go_wp2_with fail
  refine H1.out.mono ?_
  rintro e w1 ⟨rfl, hb1⟩
  go_wp2_with fail
  go_loopw [4, 5] (fun o i wr => ∃ (k : Nat) (x : Bool), k ≤ n ∧ i = .int .i64 k ∧ o = .bool x ∧ Hid (x = (l.take k).any fun b => b.1 == m1 && (b.2 == m2)) ∧ Hid (Blk wr w1.heap.size 33 #[.int .i64 m1, .int .i64 m2]) ∧ Hid (Below w.heap.size w wr)) (fun _ i _ => n - (intOf i).toNat)
  case atStart => exact ⟨0, false, Nat.zero_le _, rfl, rfl, rfl, Blk.new _ _ _, hb1.alloc hb1.size _⟩
  case round =>
    obtain ⟨k, x, hk, rfl, rfl, hx, B0, hb⟩ := hrel
    by_cases hlt : k < n
    · obtain ⟨ab, off, rfl, hab, hc0, hc1⟩ := (hl'.out.below hb.out).at_ hlt
      have hless := hq.out.2 (l.getD k (0, 0)) (by
        rw [List.getD_eq_getElem?_getD, List.getElem?_eq_getElem (by rw [hl'.out.len]; exact hlt), Option.getD_some]
        exact List.getElem_mem _)
      have hnx : Hid ((l.take (k + 1)).any (fun b => b.1 == m1 && (b.2 == m2)) = (x || ((l.getD k (0, 0)).1 == m1 && ((l.getD k (0, 0)).2 == m2)))) := by
        show _ = _
        rw [hx.out, List.take_add_one, List.getElem?_eq_getElem (by rw [hl'.out.len]; exact hlt), Option.toList_some, List.any_append, List.getD_eq_getElem?_getD, List.getElem?_eq_getElem (by rw [hl'.out.len]; exact hlt), Option.getD_some]
        simp
      generalize l.getD k (0, 0) = bb at hc0 hc1 hless hnx
      obtain ⟨b1, b2⟩ := bb
      simp only at hc0 hc1 hless hnx
      have hc0 : ∀ d os, (Sort.grow (redrawn wr d) os).cell? ⟨ab, off + k * 2, none⟩ = some (.int .i64 b1) := cell_regrown hc0
      have hc1 : ∀ d os, (Sort.grow (redrawn wr d) os).cell? ⟨ab, off + k * 2 + 1, none⟩ = some (.int .i64 b2) := cell_regrown hc1
      have k0 : ∀ i d os, (Sort.grow (redrawn wr d) os).cell? ⟨w1.heap.size, i, none⟩ = #[Value.int .i64 m1, .int .i64 m2][i]? := fun i d os => (B0.out.call (below_regrown wr d os)).cell i
      obtain ⟨y, hy, hcase⟩ : ∃ y : Bool, Hid ((l.take (k + 1)).any (fun b => b.1 == m1 && (b.2 == m2)) = y) ∧ ((x = true ∧ y = true) ∨ (x = false ∧ (b1 == m1 && (b2 == m2)) = y)) := by
        cases x
        · exact ⟨_, hnx.out, .inr ⟨rfl, by simp⟩⟩
        · exact ⟨true, by rw [hnx.out]; rfl, .inl ⟨rfl, rfl⟩⟩
      clear hnx hx
      have hcase2 : (x = true ∧ y = true) ∨ (x = false ∧ y = false ∧ (b1 == m1) = false) ∨ (x = false ∧ y = false ∧ (b1 == m1) = true ∧ (b2 == m2) = false) ∨ (x = false ∧ y = true ∧ (b1 == m1) = true ∧ (b2 == m2) = true) := by
        rcases hcase with h | ⟨h1, h2⟩
        · exact .inl h
        · cases e1 : (b1 == m1)
          · rw [e1] at h2; exact .inr (.inl ⟨h1, by simpa using h2.symm, rfl⟩)
          · cases e2 : (b2 == m2)
            · rw [e1, e2] at h2; exact .inr (.inr (.inl ⟨h1, by simpa using h2.symm, rfl, rfl⟩))
            · rw [e1, e2] at h2; exact .inr (.inr (.inr ⟨h1, by simpa using h2.symm, rfl, rfl⟩))
      clear hcase
      rcases hcase2 with ⟨rfl, rfl⟩ | ⟨rfl, rfl, e1⟩ | ⟨rfl, rfl, e1, e2⟩ | ⟨rfl, rfl, e1, e2⟩
      all_goals
        go_wp2_with fail
        refine wp_region_quiet_below (by kernel_rfl) (by kernel_rfl) ?_
        repeat (go_big_quiet_step ((fail)))
        refine wpQuiet_nil ?_
        intro _ hw'
        obtain ⟨⟨dq, osq⟩, hw''⟩ := hw'
        subst hw''
        have B1 := Lib.hid (B0.out.call (below_regrown wr dq osq))
        have hb2 : Hid (Below w.heap.size w (Sort.grow (redrawn wr dq) osq)) := hb.out.trans ((below_regrown wr dq osq).mono hb.out.size)
        have hd0 := hc0 dq osq
        have hd1 := hc1 dq osq
        clear hc0 hc1 k0
        generalize Sort.grow (redrawn wr dq) osq = W2 at *
        have hc0 : ∀ d os, (Sort.grow (redrawn W2 d) os).cell? ⟨ab, off + k * 2, none⟩ = some (.int .i64 b1) := cell_regrown hd0
        have hc1 : ∀ d os, (Sort.grow (redrawn W2 d) os).cell? ⟨ab, off + k * 2 + 1, none⟩ = some (.int .i64 b2) := cell_regrown hd1
        have k0 : ∀ i d os, (Sort.grow (redrawn W2 d) os).cell? ⟨w1.heap.size, i, none⟩ = #[Value.int .i64 m1, .int .i64 m2][i]? := fun i d os => (B1.out.call (below_regrown W2 d os)).cell i
        clear hd0 hd1
        go_wp2_with fail
        refine wp_region_quiet_below (by kernel_rfl) (by kernel_rfl) ?_
        repeat (go_big_quiet_step ((go_at_call 18; exact Calls.regrown_of (refless_calls _ _ _ _ _))))
        refine wpQuiet_nil ?_
        intro _ hw'
        obtain ⟨⟨dq, osq⟩, hw''⟩ := hw'
        subst hw''
        rw [hless]
        go_wp2_with fail
        exact ⟨⟨k + 1, _, by omega, by go_num, rfl, hy.out.symm, B1.out.call (below_regrown W2 dq osq), hb2.out.trans ((below_regrown W2 dq osq).mono hb2.out.size)⟩, by simp [intOf]; omega⟩
    · obtain rfl : k = n := by omega
      have hx1 : x = true := by
        rw [hx.out, List.take_of_length_le (by rw [hl'.out.len]; exact Nat.le_refl _), List.any_eq_true]
        exact ⟨_, hq.out.1, by simp⟩
      subst hx1
      go_wp2_with fail
      refine (awakeB_calls _ (ht'.out.below hb.out (Nat.le_refl _))).mono ?_
      rintro e w2 ⟨rfl, hb2⟩
      go_wp2_with fail
      go_ret
      exact ⟨rfl, hb.out.trans (hb2.mono hb.out.size)⟩
end Go.Proofs.YtggimkndpmiimaaDoor
