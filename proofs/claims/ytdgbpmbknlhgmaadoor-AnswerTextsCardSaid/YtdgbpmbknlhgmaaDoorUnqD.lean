/-
The walk through changeoverref06.Unquote.
-/
import Derived.Test.YtdgbpmbknlhgmaaDoorUnq
import Derived.Deep.RegionHeld3
import Derived.Deep.AppendLies
set_option linter.unusedVariables false
set_option linter.unusedSimpArgs false
namespace Go.Proofs.YtdgbpmbknlhgmaaDoor
open Go.RowKit Qt

theorem new_cell (w : World) (v : Value) (T : TypeId) : ∀ (j : Nat) (u : Value), [v][j]? = some u → (w.alloc (.cells #[v] T)).cell? ((⟨w.heap.size, 0, none⟩ : Addr).add j) = some u := by
  intro j u hj
  match j, hj with
  | 0, hj => simp at hj; subst hj; simp [Addr.add]
theorem one_int (a : Int) : ∀ u ∈ [Value.int .u8 a], u.oneCell' = true := by
  intro u hu; simp at hu; subst hu; rfl
theorem wr2 (p : Nat) (h : p < 1000001) : IntKind.i64.wrap ((p : Int) + 2) = (p : Int) + 2 := by rw [IntKind.wrap_i64]; omega
theorem wr3 (p : Nat) (h : p < 1000001) : IntKind.i64.wrap ((p : Int) + 3) = (p : Int) + 3 := by rw [IntKind.wrap_i64]; omega
theorem wr16 (v : Nat) (h : v < 16) : IntKind.i64.wrap (16 * (v : Int)) = 16 * (v : Int) := by rw [IntKind.wrap_i64]; omega
theorem wr17 (v u : Nat) (h : v < 16) (h2 : u < 16) : IntKind.i64.wrap (16 * (v : Int) + (u : Int)) = 16 * (v : Int) + (u : Int) := by rw [IntKind.wrap_i64]; omega
attribute [local go_sem] wr2 wr3 wr16 wr17 IntKind.wrap_u8
theorem is_none {l : List UInt8} (h : unquote l = none) : Hid ((unquote l).isSome = false ∧ ∀ x, unquote l = some x → False) := by
  show _ ∧ _
  rw [h]; exact ⟨rfl, fun x h => by cases h⟩
theorem is_some {l x : List UInt8} (h : unquote l = some x) : Hid ((unquote l).isSome = true ∧ ∀ y, unquote l = some y → x = y) := by
  show _ ∧ _
  rw [h]; exact ⟨rfl, fun y h => by cases h; rfl⟩
theorem ret_is {a : ByteArray} {b d : Bool} (h2 : b = d) : Ending.returned (Value.tuple #[.string a, .bool b]) = Ending.returned (Value.tuple #[.string a, .bool d]) := by rw [h2]

set_option maxHeartbeats 8000000 in
set_option maxRecDepth 100000 in
theorem refUnquote_calls (s : ByteArray) (w : World) (hs : s.size ≤ 1000000) :
    Calls Tryd.prog 16 #[.string s] w fun e w' => ∃ t, e = .returned (.tuple #[.string t, .bool (unquote (toL s)).isSome]) ∧ (∀ x, unquote (toL s) = some x → t = str x) ∧ Below w.heap.size w w' := by
  obtain ⟨i0, hi, hz0, hz1, hz2⟩ := info_parts bByte
  go_enter Tryd.func16, Tryd.ntmps16
  by_cases hsz : s.size < 2
  · have hq := is_none (unquote_short (l := toL s) (by rw [toL_size]; exact hsz))
    go_wp2
    go_ret2
    exact ⟨_, ret_is hq.out.1.symm, fun x hx => (hq.out.2 x hx).elim, Below.refl _ _⟩
  go_wp2
  go_loopw [4, 6] (fun o i wr => ∃ (A : Option Addr) (n c pos : Nat) (acc : List UInt8), o = .slice A n c ∧ i = .int .i64 (pos : Int) ∧ 1 ≤ pos ∧ acc.length = n ∧ n ≤ pos ∧ pos ≤ s.size - 1 ∧ Hid (wr.ownsRow w.heap.size 5 1 (.slice A n c) n (Lib.byteCells acc)) ∧ Hid (unbody (inner (toL s)) = (unbody (tl s pos)).map (acc ++ ·)) ∧ Hid (Below w.heap.size w wr)) (fun _ i _ => s.size - (intOf i).toNat)
  case atStart =>
    refine ⟨none, 0, 0, 1, [], rfl, rfl, by omega, rfl, by omega, by omega, World.ownsRow_nil _ _ _ _, ?_, Below.refl _ _⟩
    show _ = _
    rw [tl_one]; cases unbody (inner (toL s)) <;> rfl
  case round =>
    obtain ⟨A, n, c, pos, acc, rfl, rfl, h1, hn, hnp, hps, hown, hub, hbw⟩ := hrel
    have hwz : w.heap.size ≤ wr.heap.size := hbw.out.size
    by_cases hp : pos + 1 < s.size
    · obtain ⟨x, hat⟩ : ∃ x, ∀ h : pos < s.size, s[pos]'h = x := ⟨s[pos]'(by omega), fun _ => rfl⟩
      have htc := tl_cons s pos (by omega) (by omega)
      rw [hat] at htc
      have hxe : ((x.toNat : Int) == 92) = decide (x = 92) := u8_eq x 92 (by omega)
      have own1 := hown.out
      have hbw1 := hbw.out
      by_cases hx : x = 92
      · rw [decide_eq_true hx] at hxe
        rw [hx] at htc
        clear hx
        have htd := tl_drop s (pos + 1)
        have hbad : unesc1 (tl s (pos + 1)) = none → Hid ((unquote (toL s)).isSome = false ∧ ∀ x, unquote (toL s) = some x → False) := fun h =>
          is_none (unquote_bad (by rw [hub.out, htc, unbody_none _ h]; rfl))
        have hgood : ∀ y k, unesc1 (tl s (pos + 1)) = some (y, k) → Hid (unbody (inner (toL s)) = (unbody (tl s (pos + (k + 1)))).map ((acc ++ [y]) ++ ·)) := by
          intro y k h
          show _ = _
          rw [hub.out, htc, unbody_esc _ _ _ h, htd, show pos + 1 + k = pos + (k + 1) by omega]
          cases unbody (tl s (pos + (k + 1))) <;> simp
        clear hub htd htc
        by_cases p1 : pos + 2 < s.size
        · obtain ⟨a, hat1⟩ : ∃ a, ∀ h : pos + 1 < s.size, s[pos + 1]'h = a := ⟨s[pos + 1]'(by omega), fun _ => rfl⟩
          have hc1 := tl_cons s (pos + 1) (by omega) (by omega)
          rw [hat1] at hc1
          have e34 : ((a.toNat : Int) == 34) = decide (a = 34) := u8_eq a 34 (by omega)
          have e92 : ((a.toNat : Int) == 92) = decide (a = 92) := u8_eq a 92 (by omega)
          have e120 : ((a.toNat : Int) != 120) = !decide (a = 120) := by
            have h : ((a.toNat : Int) == 120) = decide (a = 120) := u8_eq a 120 (by omega)
            show (!((a.toNat : Int) == 120)) = _
            rw [h]
          by_cases hq : a = 34 ∨ a = 92
          · have hub2 := hgood a 1 (by rw [hc1]; exact unesc_q a _ hq)
            clear hgood hbad hc1 e120
            by_cases h34 : a = 34
            · subst h34
              clear e92 hq e34
              have e34 : (((34 : UInt8).toNat : Int) == 34) = true := rfl
              have hsn : Lib.byteCells (acc ++ [(34 : UInt8)]) = Lib.byteCells acc ++ [Value.int .u8 34] := byteCells_snoc1 acc (34 : UInt8)
              go_wp2_with (at_builtin; refine wpList_append_own _ rfl _ _ 36 rfl w.heap.size 5 i0 (.int .u8 0) 1 1 Tryd.underlying36 hi hz0 hz1 hz2 rfl (by decide) _ _ _ rfl (own1.alloc _) ⟨wr.heap.size, 0, none⟩ 1 1 [.int .u8 34] rfl rfl (new_cell _ _ _) (one_int _) (by unfold maxLen; omega) (by omega) (by simp; omega) ?_)
              intro v' w2 hown' hgrow _
              rw [← hsn] at hown'
              have hb2 : Below w.heap.size w w2 := ((hbw1).alloc (by omega) _).grown hgrow (by simp; omega) (fun k hk => (own1.lt k hk).1)
              obtain ⟨A', c', rfl⟩ : ∃ A' c', v' = .slice A' (n + 1) c' := by
                rcases hown'.2 with ⟨_, h0⟩ | ⟨g, cap, cur, hv, _⟩
                · omega
                · exact ⟨_, _, hv⟩
              have hown2 := Lib.hid hown'
              clear hown' hgrow
              go_wp2
              go_roundw
              case rel => exact ⟨A', n + 1, c', pos + (1 + 1), acc ++ [(34 : UInt8)], rfl, by go_num, by omega, by rw [List.length_append]; simp; omega, by omega, by omega, hown2, hub2, hb2⟩
              case measure => simp [intOf]; omega
            · obtain rfl : a = 92 := by simpa [h34] using hq
              clear e92 hq e34 h34
              have e92 : (((92 : UInt8).toNat : Int) == 92) = true := rfl
              have e34 : (((92 : UInt8).toNat : Int) == 34) = false := rfl
              have hsn : Lib.byteCells (acc ++ [(92 : UInt8)]) = Lib.byteCells acc ++ [Value.int .u8 92] := byteCells_snoc1 acc (92 : UInt8)
              go_wp2_with (at_builtin; refine wpList_append_own _ rfl _ _ 36 rfl w.heap.size 5 i0 (.int .u8 0) 1 1 Tryd.underlying36 hi hz0 hz1 hz2 rfl (by decide) _ _ _ rfl (own1.alloc _) ⟨wr.heap.size, 0, none⟩ 1 1 [.int .u8 92] rfl rfl (new_cell _ _ _) (one_int _) (by unfold maxLen; omega) (by omega) (by simp; omega) ?_)
              intro v' w2 hown' hgrow _
              rw [← hsn] at hown'
              have hb2 : Below w.heap.size w w2 := ((hbw1).alloc (by omega) _).grown hgrow (by simp; omega) (fun k hk => (own1.lt k hk).1)
              obtain ⟨A', c', rfl⟩ : ∃ A' c', v' = .slice A' (n + 1) c' := by
                rcases hown'.2 with ⟨_, h0⟩ | ⟨g, cap, cur, hv, _⟩
                · omega
                · exact ⟨_, _, hv⟩
              have hown2 := Lib.hid hown'
              clear hown' hgrow
              go_wp2
              go_roundw
              case rel => exact ⟨A', n + 1, c', pos + (1 + 1), acc ++ [(92 : UInt8)], rfl, by go_num, by omega, by rw [List.length_append]; simp; omega, by omega, by omega, hown2, hub2, hb2⟩
              case measure => simp [intOf]; omega
          rw [decide_eq_false (fun e => hq (.inl e))] at e34
          rw [decide_eq_false (fun e => hq (.inr e))] at e92
          by_cases p3 : pos + 4 < s.size
          · obtain ⟨p, hat2⟩ : ∃ a, ∀ h : pos + 2 < s.size, s[pos + 2]'h = a := ⟨s[pos + 2]'(by omega), fun _ => rfl⟩
            obtain ⟨q, hat3⟩ : ∃ a, ∀ h : pos + 3 < s.size, s[pos + 3]'h = a := ⟨s[pos + 3]'(by omega), fun _ => rfl⟩
            have hc2 := tl_cons s (pos + 2) (by omega) (by omega)
            have hc3 := tl_cons s (pos + 3) (by omega) (by omega)
            rw [hat2] at hc2
            rw [hat3] at hc3
            rw [hc2, hc3] at hc1
            have hul := unesc_long a p q (tl s (pos + 3 + 1)) hq
            rw [← hc1] at hul
            clear hc1 hc2 hc3 hq
            by_cases hx : a = 120
            · rw [decide_eq_true hx] at e120
              have e120 : ((a.toNat : Int) != 120) = false := e120
              have huf : Hid (unesc1 (tl s (pos + 1)) = match val p, val q with
                  | some x, some y => some (UInt8.ofNat (16 * x + y), 3)
                  | _, _ => none) := hul.trans (if_pos hx)
              clear hul hx
              have hdp := dg_lt p
              have hdq := dg_lt q
              have dp := value_calls p
              have ddq := value_calls q
              by_cases hp : dg p < 0
              · have hq := hbad (by
                  rw [huf.out]
                  cases hv : val p with
                  | none => rfl
                  | some v => rw [dg_val hv] at hp; omega)
                clear hbad hgood huf
                go_wp2_with (fail)
                refine (dp _).mono ?_
                rintro e w1 ⟨rfl, rfl⟩
                go_wp2_with (fail)
                go_ret2
                exact ⟨_, ret_is hq.out.1.symm, fun x hx => (hq.out.2 x hx).elim, hbw.out⟩
              by_cases hp2 : dg q < 0
              · have hq := hbad (by
                  rw [huf.out]
                  cases hv : val p with
                  | none => rfl
                  | some v =>
                    cases hw : val q with
                    | none => rfl
                    | some y => rw [dg_val hw] at hp2; omega)
                clear hbad hgood huf
                go_wp2_with (fail)
                refine (dp _).mono ?_
                rintro e w1 ⟨rfl, rfl⟩
                go_wp2_with (fail)
                refine (ddq _).mono ?_
                rintro e w1 ⟨rfl, rfl⟩
                go_wp2_with (fail)
                go_ret2
                exact ⟨_, ret_is hq.out.1.symm, fun x hx => (hq.out.2 x hx).elim, hbw.out⟩
              obtain ⟨vx, hx1⟩ : ∃ x, val p = some x := by
                cases hv : val p with
                | none => rw [dg_none hv] at hp; omega
                | some v => exact ⟨v, rfl⟩
              obtain ⟨vy, hy1⟩ : ∃ y, val q = some y := by
                cases hv : val q with
                | none => rw [dg_none hv] at hp2; omega
                | some v => exact ⟨v, rfl⟩
              rw [dg_val hx1] at hp hdp dp
              rw [dg_val hy1] at hp2 hdq ddq
              have hub2 := hgood (UInt8.ofNat (16 * vx + vy)) 3 (by rw [huf.out, hx1, hy1])
              have hor : (16 * (vx : Int) + (vy : Int)) % 256 = (((UInt8.ofNat (16 * vx + vy)).toNat : Nat) : Int) := by
                rw [UInt8.toNat_ofNat_of_lt' (by show _ < 256; omega)]; omega
              generalize UInt8.ofNat (16 * vx + vy) = y at *
              have gp := dg_val hx1
              have gq := dg_val hy1
              clear huf hx1 hy1 hp hp2 hgood hbad
              go_wp2_with (fail)
              refine (dp _).mono ?_
              rintro e w1 ⟨rfl, rfl⟩
              go_wp2_with (fail)
              refine (ddq _).mono ?_
              rintro e w1 ⟨rfl, rfl⟩
              go_wp2_with (fail)
              have hw2 : w.heap.size ≤ (wr.alloc (.cells #[.int .u8 (y.toNat : Int)] 5)).heap.size := by simp; omega
              have i1 : (0 : Int) ≤ (pos : Int) + 2 := by omega
              have i2 : (pos : Int) + 2 < (s.size : Int) := by omega
              have i4 : (0 : Int) ≤ (pos : Int) + 3 := by omega
              have i5 : (pos : Int) + 3 < (s.size : Int) := by omega
              have i3 : ((pos : Int) + 2).toNat = pos + 2 := by omega
              have i6 : ((pos : Int) + 3).toNat = pos + 3 := by omega
              have j1 : pos < 1000001 := by omega
              have j2 : vx < 16 := by omega
              have j3 : vy < 16 := by omega
              have i7 := hat2 (by omega)
              have i8 := hat3 (by omega)
              clear hdp hdq
              go_region_held3 (fun w' => True) (trivial)
                (first
                  | (refine step_append_lies _ (by rfl) _ _ _ (by rfl) w.heap.size 5 i0 (.int .u8 0) 1 1 Tryd.underlying36 hi hz0 hz1 hz2 rfl (by decide) (.slice A n c) n (Lib.byteCells acc) (by rfl) (by first | exact (own1.alloc _).drew | exact own1.drew.alloc _)
                      ⟨wr.heap.size, 0, none⟩ 1 1 [.int .u8 (y.toNat : Int)] (by rfl) (by rfl) (by first | exact World.news_of_block (cs := #[.int .u8 (y.toNat : Int)]) (t := 5) (fr := (0, 0)) (heap_alloc_new wr _) | exact new_cell _ _ _) (one_int _)
                      (by omega) (by unfold maxLen; omega) (by omega) (by simp; omega) (wr.heap.size + 1) (by simp) ?_; intro gg cap w2 hown' hgrow hat' hlt)
                  | (go_at_call 51; refine (value_calls _ _).mono ?_; rintro e w' ⟨rfl, rfl⟩))
              all_goals
                rw [← byteCells_snoc1] at hown'
                have hb2 : Below w.heap.size w w2 := ((hbw1.alloc (by omega) _).drew).grown hgrow (by simp; omega) (fun k hk => (own1.lt k hk).1)
                have hown2 := Lib.hid hown'
                clear hown' hgrow hat' hlt i1 i2 i3 i4 i5 i6 i7 i8 hw2 gp gq hor
                first
                  | exact ⟨⟨some ⟨gg, 0, none⟩, n + 1, cap, pos + (3 + 1), acc ++ [y], rfl, by go_num, by omega, by rw [List.length_append]; simp; omega, by omega, by omega, hown2, hub2, hb2⟩, by simp [intOf]; omega⟩
                  | (go_wp2
                     exact ⟨⟨some ⟨gg, 0, none⟩, n + 1, cap, pos + (3 + 1), acc ++ [y], rfl, by go_num, by omega, by rw [List.length_append]; simp; omega, by omega, by omega, hown2, hub2, hb2⟩, by simp [intOf]; omega⟩)
            · rw [decide_eq_false hx] at e120
              have e120 : ((a.toNat : Int) != 120) = true := e120
              have hq := hbad (by rw [hul, if_neg hx])
              clear hbad hgood hul hx
              go_wp2
              go_ret2
              exact ⟨_, ret_is hq.out.1.symm, fun x hx => (hq.out.2 x hx).elim, hbw.out⟩
          · have hq := hbad (by
              rw [hc1]
              refine unesc_short a _ hq ?_
              rw [tl_len]; omega)
            clear hbad hgood hc1 e120
            go_wp2
            go_ret2
            exact ⟨_, ret_is hq.out.1.symm, fun x hx => (hq.out.2 x hx).elim, hbw.out⟩
        · have hq := hbad (by
            rw [show tl s (pos + 1) = [] from List.eq_nil_of_length_eq_zero (by rw [tl_len]; omega)]; rfl)
          clear hbad hgood
          go_wp2
          go_ret2
          exact ⟨_, ret_is hq.out.1.symm, fun x hx => (hq.out.2 x hx).elim, hbw.out⟩
      · have hub2 : Hid (unbody (inner (toL s)) = (unbody (tl s (pos + 1))).map ((acc ++ [x]) ++ ·)) := by
          show _ = _
          rw [hub.out, htc, unbody_plain _ _ hx]
          cases unbody (tl s (pos + 1)) <;> simp
        rw [decide_eq_false hx] at hxe
        clear hub htc
        have hsn : Lib.byteCells (acc ++ [x]) = Lib.byteCells acc ++ [Value.int .u8 (x.toNat : Int)] := byteCells_snoc1 acc x
        go_wp2_with (at_builtin; refine wpList_append_own _ rfl _ _ 36 rfl w.heap.size 5 i0 (.int .u8 0) 1 1 Tryd.underlying36 hi hz0 hz1 hz2 rfl (by decide) _ _ _ rfl (own1.alloc _) ⟨wr.heap.size, 0, none⟩ 1 1 [.int .u8 (x.toNat : Int)] rfl rfl (new_cell _ _ _) (one_int _) (by unfold maxLen; omega) (by omega) (by simp; omega) ?_)
        intro v' w2 hown' hgrow _
        rw [← hsn] at hown'
        have hb2 : Below w.heap.size w w2 := ((hbw1).alloc (by omega) _).grown hgrow (by simp; omega) (fun k hk => (own1.lt k hk).1)
        obtain ⟨A', c', rfl⟩ : ∃ A' c', v' = .slice A' (n + 1) c' := by
          rcases hown'.2 with ⟨_, h0⟩ | ⟨g, cap, cur, hv, _⟩
          · omega
          · exact ⟨_, _, hv⟩
        have hown2 := Lib.hid hown'
        clear hown' hgrow
        go_wp2
        go_roundw
        case rel => exact ⟨A', n + 1, c', pos + 1, acc ++ [x], rfl, by go_num, by omega, by rw [List.length_append]; simp; omega, by omega, by omega, hown2, hub2, hb2⟩
        case measure => simp [intOf]; omega
    · have hall : unbody (inner (toL s)) = some acc := by
        rw [hub.out, show tl s pos = [] from List.eq_nil_of_length_eq_zero (by rw [tl_len]; omega), unbody_nil]
        simp
      clear hub
      have hcv : ∀ d os, (convert 36 9 (.slice A n c)).run Tryd.prog (Sort.grow (redrawn wr d) os) = .ok (.string (str acc)) (Sort.grow (redrawn wr d) os) := fun d os =>
        convert_own (own_below hown.out (below_regrown wr d os))
      have hqc := fun d os => Calls.regrown_of (refQuote_calls (str acc) (Sort.grow (redrawn wr d) os) (by rw [str_size]; omega))
      rw [toL_str] at hqc
      by_cases hqe : quote acc = toL s
      · have hq := is_some (unquote_eq hall (by rw [toL_size]; omega) hqe)
        have hse : ((str (quote acc)).toList == s.toList) = true := by rw [beq_iff_eq, str_toList, hqe, ByteArray.toList_eq]; rfl
        clear hall hqe
        go_wp2_with (fail)
        refine wp_region_quiet_below (by kernel_rfl) (by kernel_rfl) ?_
        repeat (go_big_quiet_step ((exact hqc _ _)))
        refine wpQuiet_nil ?_
        intro _ hw'
        obtain ⟨⟨dq, osq⟩, hw''⟩ := hw'
        subst hw''
        go_wp2
        go_ret2
        exact ⟨_, ret_is hq.out.1.symm, fun x hx => by rw [hq.out.2 x hx], hbw.out.trans ((below_regrown wr dq osq).mono hwz)⟩
      · have hq := is_none (unquote_ne hall hqe)
        have hse : ((str (quote acc)).toList == s.toList) = false := by
          rw [beq_eq_false_iff_ne, str_toList, ByteArray.toList_eq]; exact hqe
        clear hall hqe
        go_wp2_with (fail)
        refine wp_region_quiet_below (by kernel_rfl) (by kernel_rfl) ?_
        repeat (go_big_quiet_step ((exact hqc _ _)))
        refine wpQuiet_nil ?_
        intro _ hw'
        obtain ⟨⟨dq, osq⟩, hw''⟩ := hw'
        subst hw''
        go_wp2
        go_ret2
        exact ⟨_, ret_is hq.out.1.symm, fun x hx => (hq.out.2 x hx).elim, hbw.out.trans ((below_regrown wr dq osq).mono hwz)⟩
end Go.Proofs.YtdgbpmbknlhgmaaDoor
