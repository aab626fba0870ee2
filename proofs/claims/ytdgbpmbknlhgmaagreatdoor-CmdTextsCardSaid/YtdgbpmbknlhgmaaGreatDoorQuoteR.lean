/-
The walk through changeoverref06.Quote.
-/
import Derived.Test.YtdgbpmbknlhgmaaGreatDoorSize
set_option linter.unusedVariables false
set_option linter.unusedSimpArgs false
namespace Go.Proofs.YtdgbpmbknlhgmaaGreatDoor
open Go.RowKit Qt

theorem quot16 (c : Nat) : ((c : Nat) : Int) / 16 = ((c / 16 : Nat) : Int) := by omega
theorem rem16 (c : Nat) : ((c : Nat) : Int) % 16 = ((c % 16 : Nat) : Int) := by omega

set_option maxHeartbeats 4000000 in
set_option maxRecDepth 100000 in
theorem refQuote_calls (s : ByteArray) (w : World) (hs : s.size ≤ 1000000) :
    Calls Tryz.prog 52 #[.string s] w fun e w' => e = .returned (.string (str (quote (toL s)))) ∧ Below w.heap.size w w' := by
  go_enter Tryz.func52, Tryz.ntmps52
  go_wp2
  go_loopw [3, 4] (fun a b wr => ∃ (acc : List UInt8) (pos : Nat), a = .string (str acc) ∧ b = .int .i64 (pos : Int) ∧ pos ≤ s.size ∧ acc.length ≤ 1 + 5 * pos ∧ Hid (acc ++ body ((toL s).drop pos) = 34 :: body (toL s)) ∧ Hid (Below w.heap.size w wr)) (fun _ b _ => s.size - (intOf b).toNat)
  case atStart => exact ⟨[34], 0, rfl, rfl, by omega, by simp, rfl, Below.refl _ _⟩
  case round =>
    obtain ⟨acc, pos, rfl, rfl, hps, hal, hacc, hbw⟩ := hrel
    have hasz := str_size acc
    by_cases hp : pos < s.size
    · have hne : (toL s).drop pos ≠ [] := by
        intro e
        have := congrArg List.length e
        rw [List.length_drop, toL_size] at this
        simp at this; omega
      have hdp := dec_pos _ hne
      rw [List.length_drop, toL_size] at hdp
      have hcut : s.extract pos (pos + (dec ((toL s).drop pos)).2) = str (((toL s).drop pos).take (dec ((toL s).drop pos)).2) := by
        rw [cut_eq _ _ _ (by omega), show pos + (dec ((toL s).drop pos)).2 - pos = (dec ((toL s).drop pos)).2 by omega]
      have hbs : Hid (body ((toL s).drop pos) = piece ((toL s).drop pos) ++ body (((toL s).drop (pos + (dec ((toL s).drop pos)).2)))) := by
        show _ = _
        rw [body_step _ hne, List.drop_drop]
      have hpl := piece_len _ hne
      have hat : ∀ h : pos < s.size, s[pos]'h = b0 ((toL s).drop pos) := fun h => at_drop s pos 0 h
      have hdc := dec_cases _ hne
      have hsz1 : 128 ≤ (b0 ((toL s).drop pos)).toNat ∧ (dec ((toL s).drop pos)).2 = 1 → ∀ w, Calls Tryz.prog 78 #[.string s, .int .i64 (pos : Int)] w fun e w' => e = .returned (.tuple #[.int .i64 0, .int .i64 0]) ∧ w = w' := by
        intro h w
        have := size_calls s pos w hs hp
        rw [size5_dec _ hne, if_pos h] at this
        exact this
      have hsz2 : ¬ (128 ≤ (b0 ((toL s).drop pos)).toNat ∧ (dec ((toL s).drop pos)).2 = 1) → ∀ w, Calls Tryz.prog 78 #[.string s, .int .i64 (pos : Int)] w fun e w' => e = .returned (.tuple #[.int .i64 ((dec ((toL s).drop pos)).2 : Int), .int .i64 ((dec ((toL s).drop pos)).1 : Int)]) ∧ w = w' := by
        intro h w
        have := size_calls s pos w hs hp
        rw [size5_dec _ hne, if_neg h] at this
        exact this
      have hpd : Hid (piece ((toL s).drop pos) = if (dec ((toL s).drop pos)).1 = 34 ∨ (dec ((toL s).drop pos)).1 = 92 then 92 :: ((toL s).drop pos).take (dec ((toL s).drop pos)).2
          else if (dec ((toL s).drop pos)).1 < 32 ∨ (dec ((toL s).drop pos)).1 = 127 ∨ ((dec ((toL s).drop pos)).1 = 65533 ∧ (dec ((toL s).drop pos)).2 = 1) then esc (b0 ((toL s).drop pos))
          else ((toL s).drop pos).take (dec ((toL s).drop pos)).2) := rfl
      -- what the next round stands on
      have hnx : ∀ pc, pc = piece ((toL s).drop pos) → Hid ((acc ++ pc) ++ body ((toL s).drop (pos + (dec ((toL s).drop pos)).2)) = 34 :: body (toL s)) := by
        rintro pc rfl
        show _ = _
        rw [List.append_assoc, ← hbs.out, hacc.out]
      clear hbs hacc
      generalize hl : (toL s).drop pos = l at *
      have hc := (b0 l).toNat_lt
      generalize hd : dec l = d at *
      obtain ⟨r, n⟩ := d
      simp only at *
      generalize piece l = pc0 at *
      generalize b0 l = c at *
      by_cases hbad : 128 ≤ c.toNat ∧ n = 1
      · have hsz := hsz1 hbad
        clear hsz1 hsz2
        obtain ⟨hb1, rfl⟩ := hbad
        have hpc : esc c = pc0 := by
          rcases hdc with ⟨h, _⟩ | ⟨_, h⟩ | ⟨_, _, h, h2, _⟩
          · omega
          · have hr : r = 65533 := congrArg Prod.fst h
            rw [hpd.out, if_neg (by omega), if_pos (.inr (.inr ⟨hr, rfl⟩))]
          · have := congrArg Prod.snd h; simp only at this; omega
        clear hdc hpd
        have e1 := hex_cut (c.toNat / 16) (by omega)
        have e2 := hex_cut (c.toNat % 16) (by omega)
        have q16 := quot16 c.toNat
        have r16 := rem16 c.toNat
        have s1 : (str [hx (c.toNat / 16)]).size = 1 := rfl
        have s2 : (str [hx (c.toNat % 16)]).size = 1 := rfl
        have t1 : (str acc ++ (⟨#[92, 120]⟩ : ByteArray)).size = acc.length + 2 := by rw [ByteArray.size_append, str_size]; rfl
        have t2 : ((str acc ++ (⟨#[92, 120]⟩ : ByteArray)) ++ str [hx (c.toNat / 16)]).size = acc.length + 3 := by rw [ByteArray.size_append, t1]; rfl
        have hcat : Hid (((str acc ++ (⟨#[92, 120]⟩ : ByteArray)) ++ str [hx (c.toNat / 16)]) ++ str [hx (c.toNat % 16)] = str (acc ++ esc c)) := by
          show _ = _
          rw [show (⟨#[92, 120]⟩ : ByteArray) = str [92, 120] from rfl, str_append, str_append, str_append, List.append_assoc, List.append_assoc]; rfl
        have x1 : c.toNat / 16 < 16 := by omega
        have x2 : c.toNat % 16 < 16 := by omega
        have hnx' := hnx (esc c) hpc
        clear hnx
        generalize hx (c.toNat / 16) = h1 at *
        generalize hx (c.toNat % 16) = h2 at *
        generalize c.toNat % 16 = d2 at *
        generalize c.toNat / 16 = d1 at *
        go_wp2_with (fail)
        refine (hsz _).mono ?_
        rintro e w1 ⟨rfl, rfl⟩
        go_wp2_with (fail)
        go_quiet (fail)
        go_wp2
        go_roundw
        case rel => exact ⟨acc ++ esc c, pos + 1, by rw [hcat.out], by go_num, by omega, by rw [List.length_append]; simp [esc]; omega, hnx', below_drewN hbw.out _⟩
        case measure => simp [intOf]; omega
      · have hsz := hsz2 hbad
        clear hsz1 hsz2
        have n0 : ((n : Int) == 0) = false := by rw [beq_eq_false_iff_ne]; omega
        have e34 : ((r : Int) == 34) = decide (r = 34) := i32_eq r 34
        have e92 : ((r : Int) == 92) = decide (r = 92) := i32_eq r 92
        have e127 : ((r : Int) == 127) = decide (r = 127) := i32_eq r 127
        have hsm : r < 128 → n = 1 ∧ c.toNat = r := by
          intro hr
          rcases hdc with ⟨h, h1⟩ | ⟨h, h1⟩ | ⟨_, _, h, h2, _, _, h3, _⟩
          · have := congrArg Prod.fst h1; have := congrArg Prod.snd h1; simp only at *; omega
          · have := congrArg Prod.fst h1; simp only at this; omega
          · have := congrArg Prod.fst h; simp only at this; omega
        have hnb : ¬ (r = 65533 ∧ n = 1) := by
          rintro ⟨h1, h2⟩
          rcases hdc with ⟨h, h3⟩ | ⟨h, h3⟩ | ⟨_, _, h, h4, _⟩
          · have := congrArg Prod.fst h3; simp only at this; omega
          · exact hbad ⟨h, h2⟩
          · have := congrArg Prod.snd h; simp only at this; omega
        clear hdc
        by_cases hes : r < 32 ∨ r = 127
        · obtain ⟨rfl, hcr⟩ := hsm (by omega)
          have hpc : esc c = pc0 := by rw [hpd.out, if_neg (by omega), if_pos (by omega)]
          clear hpd hsm hcr
          have e1 := hex_cut (c.toNat / 16) (by omega)
          have e2 := hex_cut (c.toNat % 16) (by omega)
          have q16 := quot16 c.toNat
          have r16 := rem16 c.toNat
          have s1 : (str [hx (c.toNat / 16)]).size = 1 := rfl
          have s2 : (str [hx (c.toNat % 16)]).size = 1 := rfl
          have t1 : (str acc ++ (⟨#[92, 120]⟩ : ByteArray)).size = acc.length + 2 := by rw [ByteArray.size_append, str_size]; rfl
          have t2 : ((str acc ++ (⟨#[92, 120]⟩ : ByteArray)) ++ str [hx (c.toNat / 16)]).size = acc.length + 3 := by rw [ByteArray.size_append, t1]; rfl
          have hcat : Hid (((str acc ++ (⟨#[92, 120]⟩ : ByteArray)) ++ str [hx (c.toNat / 16)]) ++ str [hx (c.toNat % 16)] = str (acc ++ esc c)) := by
            show _ = _
            rw [show (⟨#[92, 120]⟩ : ByteArray) = str [92, 120] from rfl, str_append, str_append, str_append, List.append_assoc, List.append_assoc]; rfl
          have x1 : c.toNat / 16 < 16 := by omega
          have x2 : c.toNat % 16 < 16 := by omega
          have hnx' := hnx (esc c) hpc
          clear hnx
          generalize hx (c.toNat / 16) = h1 at *
          generalize hx (c.toNat % 16) = h2 at *
          generalize c.toNat % 16 = d2 at *
          generalize c.toNat / 16 = d1 at *
          by_cases h32 : r < 32
          · have l32 : decide ((r : Int) < 32) = true := by rw [decide_eq_true_eq]; omega
            clear e34 e92 e127
            go_wp2_with (fail)
            refine (hsz _).mono ?_
            rintro e w1 ⟨rfl, rfl⟩
            go_wp2_with (fail)
            go_quiet (fail)
            go_wp2
            go_roundw
            case rel => exact ⟨acc ++ esc c, pos + 1, by rw [hcat.out], by go_num, by omega, by rw [List.length_append]; simp [esc]; omega, hnx', below_drewN hbw.out _⟩
            case measure => simp [intOf]; omega
          · have l32 : decide ((r : Int) < 32) = false := by rw [decide_eq_false_iff_not]; omega
            rw [decide_eq_true (by omega)] at e127
            clear e34 e92
            go_wp2_with (fail)
            refine (hsz _).mono ?_
            rintro e w1 ⟨rfl, rfl⟩
            go_wp2_with (fail)
            go_quiet (fail)
            go_wp2
            go_roundw
            case rel => exact ⟨acc ++ esc c, pos + 1, by rw [hcat.out], by go_num, by omega, by rw [List.length_append]; simp [esc]; omega, hnx', below_drewN hbw.out _⟩
            case measure => simp [intOf]; omega
        have l32 : decide ((r : Int) < 32) = false := by rw [decide_eq_false_iff_not]; omega
        rw [decide_eq_false (by omega)] at e127
        by_cases hq : r = 34 ∨ r = 92
        · obtain ⟨rfl, hcr⟩ := hsm (by omega)
          have hpc : 92 :: l.take 1 = pc0 := by rw [hpd.out, if_pos hq]
          have hnx' := hnx _ hpc
          have t1 : (str acc ++ (⟨#[92]⟩ : ByteArray)).size = acc.length + 1 := by rw [ByteArray.size_append, str_size]; rfl
          have t2 : (str (l.take 1)).size ≤ 1 := by rw [str_size, List.length_take]; omega
          have hcat : Hid ((str acc ++ (⟨#[92]⟩ : ByteArray)) ++ str (l.take 1) = str (acc ++ 92 :: l.take 1)) := by
            show _ = _
            rw [show (⟨#[92]⟩ : ByteArray) = str [92] from rfl, str_append, str_append, List.append_assoc]; rfl
          have hlen : (92 :: l.take 1).length ≤ 2 := by simp; omega
          clear hpd hsm hcr hnx hpc
          by_cases h34 : r = 34
          · rw [decide_eq_true h34] at e34
            go_wp2_with (fail)
            refine (hsz _).mono ?_
            rintro e w1 ⟨rfl, rfl⟩
            go_wp2
            go_roundw
            case rel => exact ⟨acc ++ 92 :: l.take 1, pos + 1, by rw [hcat.out], by go_num, by omega, by rw [List.length_append]; omega, hnx', by first | exact below_drewN hbw.out _ | exact hbw⟩
            case measure => simp [intOf]; omega
          · rw [decide_eq_false h34] at e34
            rw [decide_eq_true (by omega)] at e92
            go_wp2_with (fail)
            refine (hsz _).mono ?_
            rintro e w1 ⟨rfl, rfl⟩
            go_wp2
            go_roundw
            case rel => exact ⟨acc ++ 92 :: l.take 1, pos + 1, by rw [hcat.out], by go_num, by omega, by rw [List.length_append]; omega, hnx', by first | exact below_drewN hbw.out _ | exact hbw⟩
            case measure => simp [intOf]; omega
        · rw [decide_eq_false (by omega)] at e34 e92
          have hpc : l.take n = pc0 := by rw [hpd.out, if_neg hq, if_neg (by omega)]
          have hnx' := hnx _ hpc
          have t2 : (str (l.take n)).size ≤ 4 := by rw [str_size, List.length_take]; omega
          have hcat : Hid (str acc ++ str (l.take n) = str (acc ++ l.take n)) := by
            show _ = _
            rw [str_append]
          have hlen : (l.take n).length ≤ n := by rw [List.length_take]; omega
          clear hpd hsm hnx hbad hpc
          go_wp2_with (fail)
          refine (hsz _).mono ?_
          rintro e w1 ⟨rfl, rfl⟩
          go_wp2
          go_roundw
          case rel => exact ⟨acc ++ l.take n, pos + n, by rw [hcat.out], by go_num, by omega, by rw [List.length_append]; omega, hnx', by first | exact below_drewN hbw.out _ | exact hbw⟩
          case measure => simp [intOf]; omega
    · have hend : Hid (str acc ++ (⟨#[34]⟩ : ByteArray) = str (quote (toL s))) := by
        have := hacc.out
        rw [List.drop_eq_nil_of_le (by rw [toL_size]; omega), body_nil, List.append_nil] at this
        show _ = _
        rw [this, show (⟨#[34]⟩ : ByteArray) = str [34] from rfl, str_append]; rfl
      go_wp2
      go_ret
      exact ⟨ret_str hend.out, hbw.out⟩
end Go.Proofs.YtdgbpmbknlhgmaaGreatDoor
