/-
The walk through the law QuoteWords.
-/
import Derived.Test.YtdgbpmbknlhgmaaDoorLawQ
set_option linter.unusedVariables false
set_option linter.unusedSimpArgs false
namespace Go.Proofs.YtdgbpmbknlhgmaaDoor
open Go.RowKit Qt

theorem flat_next (ws : List (List UInt8)) (k : Nat) (h : k < ws.length) : (ws.take (k + 1)).flatten.length = (ws.take k).flatten.length + (ws.getD k []).length := by
  rw [take_next ws k h, List.flatten_append, List.length_append]; simp
theorem all_next (ws : List (List UInt8)) (p : List UInt8 → Bool) (k : Nat) (h : k < ws.length) : (ws.take (k + 1)).all p = ((ws.take k).all p && p (ws.getD k [])) := by
  rw [take_next ws k h, List.all_append]; simp
theorem getD_mem (ws : List (List UInt8)) (k : Nat) (h : k < ws.length) : ws.getD k [] ∈ ws := by
  rw [List.getD_eq_getElem?_getD, List.getElem?_eq_getElem h]; exact List.getElem_mem _

set_option maxHeartbeats 4000000 in
set_option maxRecDepth 100000 in
theorem lawWords_calls (A : Option Addr) (n c : Nat) (ws : List (List UInt8)) (w : World) (hv : QVars w) (hn : n ≤ 140737488351232) (hcap : n ≤ c) (hx : ∀ x ∈ ws, x.length ≤ 140737488351232) (ht : TxAt w A n ws) :
    Calls Tryd.prog 6 #[.slice A n c] w fun e w' => e = .returned (.bool true) ∧ Below w.heap.size w w' := by
  have hv' := Lib.hid hv
  have ht' := Lib.hid ht
  have hx' := Lib.hid hx
  have hlen := ht.len
  clear hv ht hx
  go_enter Tryd.func6, Tryd.ntmps6
  go_wp2_with (fail)
  go_loopw [3, 4] (fun t i wr => ∃ k tot : Nat, k ≤ n ∧ k ≤ 61 ∧ tot ≤ 500 ∧ i = .int .i64 (k : Int) ∧ t = .int .i64 (tot : Int) ∧ Hid ((ws.take k).flatten.length = tot) ∧ Hid (Below w.heap.size w wr)) (fun _ i _ => n - (intOf i).toNat)
  case atStart => exact ⟨0, 0, by omega, by omega, by omega, rfl, rfl, rfl, Below.refl _ _⟩
  case round =>
    obtain ⟨k, tot, hk, hk61, htot, rfl, rfl, hsum, hb⟩ := hrel
    by_cases hlt : k < n
    · obtain ⟨b1, o1, rfl, hb1, hc1⟩ := (ht'.out.below hb.out).at_ (by omega)
      have g1 := hc1 k hlt
      have hnx := Lib.hid (flat_next ws k (by omega))
      have hxl := hx'.out _ (getD_mem ws k (by omega))
      have hss := str_size (ws.getD k [])
      have ha := fun w1 (hb1 : Below w.heap.size w w1) => awakeQ_calls w1 (hv'.out.below hb1)
      have ha := Lib.hid ha
      clear hc1
      generalize ws.getD k [] = x at *
      generalize str x = sx at *
      by_cases h1 : 500 < tot + x.length
      · go_wp2_with (fail)
        refine (ha.out _ hb.out).mono ?_
        rintro e w2 ⟨rfl, hb2⟩
        go_wp2_with (fail)
        go_ret
        exact ⟨rfl, hb.out.trans (hb2.mono hb.out.size)⟩
      · have d1 : decide (500 < (tot : Int) + (x.length : Int)) = false := by rw [decide_eq_false_iff_not]; omega
        by_cases h2 : 60 < k
        · go_wp2_with (fail)
          refine (ha.out _ hb.out).mono ?_
          rintro e w2 ⟨rfl, hb2⟩
          go_wp2_with (fail)
          go_ret
          exact ⟨rfl, hb.out.trans (hb2.mono hb.out.size)⟩
        · go_wp2_with (fail)
          go_roundw
          case rel => exact ⟨k + 1, tot + x.length, by omega, by omega, by omega, by go_num, by go_num, (by show _ = _; rw [hnx.out, hsum.out]), hb.out⟩
          case measure => simp [intOf]; omega
    · have hflat : Hid (ws.flatten.length = tot) := by
        have := hsum.out
        rw [List.take_of_length_le (by omega)] at this; exact this
      have hxl : Hid (∀ x ∈ ws, x.length ≤ 500) := by
        show ∀ _, _
        intro x hx
        have := flat_mem hx
        have := hflat.out
        omega
      have hn61 : n ≤ 61 := by omega
      have hbb := hb
      clear hsum hb hx'
      obtain ⟨wo, rfl⟩ : ∃ wo : World, wo = wr := ⟨_, rfl⟩
      go_wp2_with (fail)
      clear hlt
      go_loopw [5, 6] (fun a i wr => ∃ k : Nat, k ≤ n ∧ i = .int .i64 (k : Int) ∧ a = .bool ((ws.take k).all isWord) ∧ Hid (Below w.heap.size w wr)) (fun _ i _ => n - (intOf i).toNat)
      case atStart => exact ⟨0, by omega, rfl, rfl, hbb⟩
      case round =>
        obtain ⟨j, hj, rfl, rfl, hb⟩ := hrel
        by_cases hlt : j < n
        · obtain ⟨b1, o1, rfl, hb1, hc1⟩ := (ht'.out.below hb.out).at_ (by omega)
          have g1 := hc1 j hlt
          have hnx := Lib.hid (all_next ws isWord j (by omega))
          have hx := hxl.out _ (getD_mem ws j (by omega))
          have H := refWord_calls (str (ws.getD j [])) wr (by rw [str_size]; omega)
          rw [toL_str] at H
          have H := Lib.hid H
          clear hc1
          generalize ws.getD j [] = x at *
          generalize str x = sx at *
          generalize isWord x = wx at *
          generalize hal : (ws.take j).all isWord = al at *
          clear hal
          cases al
          · go_wp2_with (fail)
            go_roundw
            case rel => exact ⟨j + 1, by omega, by go_num, by rw [hnx.out]; rfl, hb⟩
            case measure => simp [intOf]; omega
          · go_wp2_with (fail)
            refine H.out.mono ?_
            rintro e w2 ⟨rfl, hb2⟩
            go_wp2_with (fail)
            go_roundw
            case rel => exact ⟨j + 1, by omega, by go_num, by rw [hnx.out]; simp, hb.out.trans (hb2.mono hb.out.size)⟩
            case measure => simp [intOf]; omega
        · have hta : ws.take j = ws := List.take_of_length_le (by omega)
          rw [hta]
          have ha := fun w1 (hb1 : Below w.heap.size w w1) => awakeQ_calls w1 (hv'.out.below hb1)
          have ha := Lib.hid ha
          clear hta
          cases hall : ws.all isWord
          · clear hall
            go_wp2_with (fail)
            refine (ha.out _ hb.out).mono ?_
            rintro e w2 ⟨rfl, hb2⟩
            go_wp2_with (fail)
            go_ret
            exact ⟨rfl, hb.out.trans (hb2.mono hb.out.size)⟩
          · have hjl := join_len ws
            have hfl := hflat.out
            have H1 := Lib.hid (line_calls A n c ws wr hcap (by omega) (by omega) (ht'.out.below hb.out))
            have hw := wd_some (words_join ws (fun x hx => List.all_eq_true.1 hall x hx))
            have H2 := fun w1 (hb1 : Below w.heap.size w w1) => wordsQ_calls (str (Lib.join ws [32])) w1 (by rw [str_size]; omega) (hv'.out.below hb1)
            rw [toL_str, hw.1, hw.2] at H2
            have G2 := Lib.hid H2
            clear hall hw H2 hfl hjl
            generalize str (Lib.join ws [32]) = sj at *
            go_wp2_with (fail)
            refine H1.out.mono ?_
            rintro e w2 ⟨rfl, hb2⟩
            have hbb2 : Below w.heap.size w w2 := hb.out.trans (hb2.mono hb.out.size)
            go_wp2_with (fail)
            refine (G2.out _ hbb2).mono ?_
            rintro e w3 ⟨B, m, d, rfl, hcd, ht3, hb3⟩
            have hm := ht3.len
            have hbb3 : Below w.heap.size w w3 := hbb2.trans (hb3.mono hbb2.size)
            have H3 := texts_calls B m d ws A n c ws w3 (by omega) (by omega) ht3 (ht'.out.below hbb3)
            rw [decide_eq_true rfl] at H3
            have G3 := Lib.hid H3
            have hbb4 := Lib.hid hbb3
            clear H3 ht3 hm hcd
            go_wp2_with (fail)
            refine G3.out.mono ?_
            rintro e w4 ⟨rfl, hb4⟩
            have hbb5 : Below w.heap.size w w4 := hbb4.out.trans (hb4.mono hbb4.out.size)
            go_wp2_with (fail)
            refine (ha.out _ hbb5).mono ?_
            rintro e w5 ⟨rfl, hb5⟩
            go_wp2_with (fail)
            go_ret
            exact ⟨rfl, hbb5.trans (hb5.mono hbb5.size)⟩
end Go.Proofs.YtdgbpmbknlhgmaaDoor
