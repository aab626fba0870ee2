/-
The walks through the laws QuoteTexts, QuoteReads, QuoteLines.
-/
import Derived.Test.YtdgbpmbknlhgmaaDoorWords
set_option linter.unusedVariables false
set_option linter.unusedSimpArgs false
namespace Go.Proofs.YtdgbpmbknlhgmaaDoor
open Go.RowKit Qt

/-- what the walks need of the package variables. -/
structure QVars (w : World) : Prop where
  tab : Lib.Utf8Tabs 0 1 w
  max : ∃ m : Int, w.cell? ⟨4, 0, none⟩ = some (.int .i64 m)
theorem QVars.below {w w' : World} (h : QVars w) (hb : Below w.heap.size w w') : QVars w' :=
  ⟨Utf8Tabs_below h.tab hb, h.max.elim fun m hm => ⟨m, max_below hm hb⟩⟩
theorem wordsQ_calls (s : ByteArray) (w : World) (hs : s.size ≤ 1000000) (hv : QVars w) :
    Calls Tryd.prog 17 #[.string s] w fun e w' => ∃ A n c, e = .returned (.tuple #[.slice A n c, .int .i64 (wdE (toL s))]) ∧ n ≤ c ∧ TxAt w' A n (wdL (toL s)) ∧ Below w.heap.size w w' :=
  hv.max.elim fun m hm => words_calls s m w hs hv.tab hm
def exL : List (List UInt8) := [[97], [34, 98, 32, 99, 34]]
theorem exQ : quote [98, 32, 99] = [34, 98, 32, 99, 34] := by
  unfold quote
  rw [body_step _ (List.cons_ne_nil _ _), show piece [98, 32, 99] = [98] by decide, show (dec [98, 32, 99]).2 = 1 by decide]
  rw [show ([98, 32, 99] : List UInt8).drop 1 = [32, 99] from rfl, body_step _ (List.cons_ne_nil _ _), show piece [32, 99] = [32] by decide, show (dec [32, 99]).2 = 1 by decide]
  rw [show ([32, 99] : List UInt8).drop 1 = [99] from rfl, body_step _ (List.cons_ne_nil _ _), show piece [99] = [99] by decide, show (dec [99]).2 = 1 by decide]
  rw [show ([99] : List UInt8).drop 1 = [] from rfl, body_nil]; rfl
theorem exW : words [97, 32, 34, 98, 32, 99, 34] = some exL := by
  have h := words_join exL (by
    intro x hx
    simp only [exL, List.mem_cons, List.not_mem_nil, or_false] at hx
    rcases hx with rfl | rfl
    · decide
    · rw [← exQ]
      unfold isWord
      rw [if_neg (by simp [quote]), if_pos (by rfl), unquote_quote]; rfl)
  exact h

set_option maxHeartbeats 2000000 in
set_option maxRecDepth 100000 in
theorem awakeQ_calls (w : World) (hv : QVars w) :
    Calls Tryd.prog 12 #[] w fun e w' => e = .returned (.bool true) ∧ Below w.heap.size w w' := by
  have H1 := wordsQ_calls ⟨#[97, 32, 34, 98, 32, 99, 34]⟩ w (by decide) hv
  have hq := wd_some exW
  rw [show toL ⟨#[97, 32, 34, 98, 32, 99, 34]⟩ = [97, 32, 34, 98, 32, 99, 34] from rfl, hq.1, hq.2] at H1
  have G1 := Lib.hid H1
  clear hq hv H1
  go_enter Tryd.func12, Tryd.ntmps12
  go_wp2_with (fail)
  refine G1.out.mono ?_
  rintro e w1 ⟨A, n, c, rfl, hcap, ht, hb1⟩
  have hn : n = 2 := ht.len.symm
  subst hn
  obtain ⟨b, off, rfl, hb, hc⟩ := ht.at_ (by omega)
  have hcx : w1.cell? ⟨b, off + 1, none⟩ = some (.string ⟨#[34, 98, 32, 99, 34]⟩) := hc 1 (by omega)
  clear hc ht
  have hnew : TxAt (w1.alloc (.cells #[.string ⟨#[97]⟩, .string ⟨#[98]⟩] 9)) (some ⟨w1.heap.size, 0, none⟩) 2 [[97], [98]] := by
    refine ⟨rfl, fun _ => ⟨_, rfl, by simp, fun j u hj => ?_⟩⟩
    have ha : Addr.add ⟨w1.heap.size, 0, none⟩ j = ⟨w1.heap.size, j, none⟩ := by unfold Addr.add; split <;> simp_all
    rw [ha, World.cell?_alloc_new, ← hj]; exact List.getElem?_toArray
  have H2 := line_calls _ 2 2 _ _ (Nat.le_refl _) (by decide) (by omega) hnew
  rw [show str (Lib.join [[97], [98]] [32]) = ⟨#[97, 32, 98]⟩ from rfl] at H2
  have G2 := Lib.hid H2
  clear hnew H2
  go_wp2_with (fail)
  refine G2.out.mono ?_
  rintro e w2 ⟨rfl, hb2⟩
  go_wp2_with (fail)
  go_ret
  exact ⟨rfl, hb1.trans (((Below.refl _ _).alloc (Nat.le_refl _) _).trans (hb2.mono (by simp)) |>.mono hb1.size)⟩

theorem body_len : ∀ (m : Nat) (l : List UInt8), l.length ≤ m → (body l).length ≤ 4 * l.length := by
  intro m
  induction m with
  | zero =>
    intro l h
    obtain rfl : l = [] := List.eq_nil_of_length_eq_zero (by omega)
    rw [body_nil]; exact Nat.zero_le _
  | succ m ih =>
    intro l h
    by_cases hl : l = []
    · rw [hl, body_nil]; exact Nat.zero_le _
    · have hp := dec_pos l hl
      have hd := ih (l.drop (dec l).2) (by rw [List.length_drop]; omega)
      rw [List.length_drop] at hd
      rw [body_step l hl, List.length_append]
      have : (piece l).length ≤ 4 * (dec l).2 := by
        rcases piece_cases l hl with ⟨h1, _, h3⟩ | ⟨h1, h2⟩ | ⟨h1, _⟩
        · rw [h3, h1]; exact (by decide : 2 ≤ 4)
        · rw [h2, h1]; exact Nat.le_refl 4
        · rw [h1, List.length_take]; omega
      omega
theorem quote_len (l : List UInt8) : (quote l).length ≤ 4 * l.length + 2 := by
  have := body_len _ l (Nat.le_refl _)
  simp [quote]; omega

set_option maxHeartbeats 2000000 in
theorem lawTexts_calls (s : ByteArray) (w : World) (hv : QVars w) :
    Calls Tryd.prog 3 #[.string s] w fun e w' => e = .returned (.bool true) ∧ Below w.heap.size w w' := by
  have hv' := Lib.hid hv
  clear hv
  by_cases h : 300 < s.size
  · go_enter Tryd.func3, Tryd.ntmps3
    go_wp2_with (fail)
    refine (awakeQ_calls _ hv'.out).mono ?_
    rintro e w1 ⟨rfl, hb1⟩
    go_wp2
    go_ret
    exact ⟨rfl, hb1⟩
  have hql := quote_len (toL s)
  rw [toL_size] at hql
  have hu := uq_some (unquote_quote (toL s))
  have H1 := Lib.hid (quote_calls s w (by omega) hv'.out.tab)
  have H2 := fun (w1 : World) (hT : Lib.Utf8Tabs 0 1 w1) => unquote_calls (str (quote (toL s))) w1 (by rw [str_size]; omega) hT
  rw [toL_str, hu.1, hu.2, str_toL] at H2
  have H2 := Lib.hid H2
  have H3 := Lib.hid (fun (w1 : World) => refQuote_calls s w1 (by omega))
  clear hu hql
  generalize str (quote (toL s)) = q at *
  go_enter Tryd.func3, Tryd.ntmps3
  go_wp2_with (fail)
  refine H1.out.mono ?_
  rintro e w1 ⟨rfl, hb1⟩
  go_wp2_with (fail)
  refine (H2.out _ (Utf8Tabs_below hv'.out.tab hb1)).mono ?_
  rintro e w2 ⟨rfl, hb2⟩
  go_wp2_with (fail)
  refine (H3.out _).mono ?_
  rintro e w3 ⟨rfl, hb3⟩
  go_wp2_with (fail)
  have hb : Below w.heap.size w w3 := (hb1.trans (hb2.mono hb1.size)).trans (hb3.mono (Nat.le_trans hb1.size hb2.size))
  refine (awakeQ_calls _ (hv'.out.below hb)).mono ?_
  rintro e w4 ⟨rfl, hb4⟩
  go_wp2
  go_ret
  exact ⟨rfl, hb.trans (hb4.mono hb.size)⟩

set_option maxHeartbeats 2000000 in
theorem lawReads_calls (s : ByteArray) (w : World) (hv : QVars w) :
    Calls Tryd.prog 4 #[.string s] w fun e w' => e = .returned (.bool true) ∧ Below w.heap.size w w' := by
  have hv' := Lib.hid hv
  clear hv
  by_cases h : 300 < s.size
  · go_enter Tryd.func4, Tryd.ntmps4
    go_wp2_with (fail)
    refine (awakeQ_calls _ hv'.out).mono ?_
    rintro e w1 ⟨rfl, hb1⟩
    go_wp2
    go_ret
    exact ⟨rfl, hb1⟩
  have H1 := unquote_calls s w (by omega) hv'.out.tab
  have H2 := fun (w1 : World) => refUnquote_calls s w1 (by omega)
  rcases hu : unquote (toL s) with _ | x
  · rw [(uq_none hu).1, (uq_none hu).2] at H1
    have H2 := Lib.hid (fun (w1 : World) => (H2 w1).mono fun e w' ⟨t, h1, _, h3⟩ => (⟨t, by rw [h1, hu]; rfl, h3⟩ : ∃ t, e = Ending.returned (.tuple #[.string t, .bool false]) ∧ Below w1.heap.size w1 w'))
    have H1 := Lib.hid H1
    clear hu
    have he : (str []).toList.isEmpty = true := by rw [str_toList]; rfl
    generalize str [] = q at *
    go_enter Tryd.func4, Tryd.ntmps4
    go_wp2_with (fail)
    refine H1.out.mono ?_
    rintro e w1 ⟨rfl, hb1⟩
    go_wp2_with (fail)
    refine (H2.out _).mono ?_
    rintro e w2 ⟨t, rfl, hb2⟩
    go_wp2_with (fail)
    have hb : Below w.heap.size w w2 := hb1.trans (hb2.mono hb1.size)
    refine (awakeQ_calls _ (hv'.out.below hb)).mono ?_
    rintro e w4 ⟨rfl, hb4⟩
    go_wp2
    go_ret
    exact ⟨rfl, hb.trans (hb4.mono hb.size)⟩
  · rw [(uq_some hu).1, (uq_some hu).2] at H1
    have H2 := Lib.hid (fun (w1 : World) => (H2 w1).mono fun e w' ⟨t, h1, h2, h3⟩ => (⟨by rw [h1, h2 x hu, hu]; rfl, h3⟩ : e = Ending.returned (.tuple #[.string (str x), .bool true]) ∧ Below w1.heap.size w1 w'))
    have H1 := Lib.hid H1
    clear hu
    generalize str x = q at *
    go_enter Tryd.func4, Tryd.ntmps4
    go_wp2_with (fail)
    refine H1.out.mono ?_
    rintro e w1 ⟨rfl, hb1⟩
    go_wp2_with (fail)
    refine (H2.out _).mono ?_
    rintro e w2 ⟨rfl, hb2⟩
    go_wp2_with (fail)
    have hb : Below w.heap.size w w2 := hb1.trans (hb2.mono hb1.size)
    refine (awakeQ_calls _ (hv'.out.below hb)).mono ?_
    rintro e w4 ⟨rfl, hb4⟩
    go_wp2
    go_ret
    exact ⟨rfl, hb.trans (hb4.mono hb.size)⟩

theorem join_len : ∀ (ws : List (List UInt8)), (Lib.join ws [32]).length ≤ ws.flatten.length + ws.length
  | [] => Nat.le_refl _
  | [x] => by rw [Lib.join_one]; simp
  | x :: y :: r => by
    have := join_len (y :: r)
    rw [join_two]
    simp at this ⊢; omega
theorem join_mem : ∀ (ws : List (List UInt8)) (x : List UInt8), x ∈ ws → x.length ≤ (Lib.join ws [32]).length
  | [], x, h => by cases h
  | [a], x, h => by rw [List.mem_singleton] at h; subst h; rw [Lib.join_one]; exact Nat.le_refl _
  | a :: b :: ws, x, h => by
    rw [join_two, List.length_append, List.length_cons]
    rcases List.mem_cons.1 h with rfl | h
    · omega
    · have := join_mem (b :: ws) x h; omega
theorem join_count : ∀ (ws : List (List UInt8)), (∀ x ∈ ws, isWord x = true) → ws.length ≤ (Lib.join ws [32]).length
  | [], _ => Nat.zero_le _
  | [a], h => by
    have ha : 0 < a.length := List.length_pos_iff.2 (isWord_ne (h a (by simp)))
    rw [Lib.join_one]; exact ha
  | a :: b :: ws, h => by
    have ha : 0 < a.length := List.length_pos_iff.2 (isWord_ne (h a (by simp)))
    have := join_count (b :: ws) (fun x hx => h x (by simp [hx]))
    rw [join_two, List.length_append, List.length_cons]
    simp only [List.length_cons] at this ⊢; omega
theorem flat_mem {ws : List (List UInt8)} {x : List UInt8} (h : x ∈ ws) : x.length ≤ ws.flatten.length := by
  induction ws with
  | nil => cases h
  | cons a ws ih =>
    rw [List.flatten_cons, List.length_append]
    rcases List.mem_cons.1 h with rfl | h
    · omega
    · have := ih h; omega

set_option maxHeartbeats 4000000 in
theorem lawLines_calls (s : ByteArray) (w : World) (hv : QVars w) :
    Calls Tryd.prog 5 #[.string s] w fun e w' => e = .returned (.bool true) ∧ Below w.heap.size w w' := by
  have hv' := Lib.hid hv
  clear hv
  by_cases h : 300 < s.size
  · go_enter Tryd.func5, Tryd.ntmps5
    go_wp2_with (fail)
    refine (awakeQ_calls _ hv'.out).mono ?_
    rintro e w1 ⟨rfl, hb1⟩
    go_wp2
    go_ret
    exact ⟨rfl, hb1⟩
  have H1 := wordsQ_calls s w (by omega) hv'.out
  rcases hu : words (toL s) with _ | ws
  · rw [(wd_none hu).1, (wd_none hu).2] at H1
    have H1 := Lib.hid H1
    clear hu
    go_enter Tryd.func5, Tryd.ntmps5
    go_wp2_with (fail)
    refine H1.out.mono ?_
    rintro e w1 ⟨A, n, c, rfl, hcap, ht, hb⟩
    have hn : n = 0 := ht.len.symm
    subst hn
    clear ht
    go_wp2_with (fail)
    refine (awakeQ_calls _ (hv'.out.below hb)).mono ?_
    rintro e w4 ⟨rfl, hb4⟩
    go_wp2
    go_ret
    exact ⟨rfl, hb.trans (hb4.mono hb.size)⟩
  · rw [(wd_some hu).1, (wd_some hu).2] at H1
    obtain ⟨hws, hj⟩ := words_some hu
    have hws := Lib.hid hws
    have hjl : (Lib.join ws [32]).length ≤ 1000 := by rw [hj, toL_size]; omega
    have hjs : Hid (str (Lib.join ws [32]) = s) := by show _ = _; rw [hj, str_toL]
    have hml : Hid (∀ x ∈ ws, x.length ≤ 1000) := by
      show ∀ _, _
      intro x hx
      have := join_mem ws x hx
      omega
    have hlen : ws.length ≤ 1000 := by
      have := join_count ws hws.out
      omega
    have H1 := Lib.hid H1
    clear hu hj
    go_enter Tryd.func5, Tryd.ntmps5
    go_wp2_with (fail)
    refine H1.out.mono ?_
    rintro e w1 ⟨A, n, c, rfl, hcap, ht, hb⟩
    have hn := ht.len
    have ht' := Lib.hid ht
    clear ht
    have hnl : n ≤ 1000 := by omega
    go_wp2_with (fail)
    go_loopw [5] (fun i wr => ∃ k : Nat, k ≤ n ∧ i = .int .i64 (k : Int) ∧ Hid (Below w1.heap.size w1 wr)) (fun i _ => n - (intOf i).toNat)
    case atStart => exact ⟨0, by omega, rfl, Below.refl _ _⟩
    case round =>
      obtain ⟨k, hk, rfl, hbr⟩ := hrel
      by_cases hlt : k < n
      · obtain ⟨b1, o1, rfl, hb1, hc1⟩ := (ht'.out.below hbr.out).at_ (by omega)
        have g1 := hc1 k hlt
        have hkw : k < ws.length := by omega
        have hmem : ws.getD k [] ∈ ws := by
          rw [List.getD_eq_getElem?_getD, List.getElem?_eq_getElem hkw]; exact List.getElem_mem _
        have H := refWord_calls (str (ws.getD k [])) wr (by rw [str_size]; have := hml.out _ hmem; omega)
        rw [toL_str, hws.out _ hmem] at H
        have H := Lib.hid H
        clear hmem hc1
        generalize str (ws.getD k []) = x at *
        go_wp2_with (fail)
        refine H.out.mono ?_
        rintro e w2 ⟨rfl, hb2⟩
        go_wp2
        go_roundw
        case rel => exact ⟨k + 1, by omega, by go_num, hbr.out.trans (hb2.mono hbr.out.size)⟩
        case measure => simp [intOf]; omega
      · have H := line_calls A n c ws wr hcap (by omega) (by omega) (ht'.out.below hbr.out)
        rw [hjs.out] at H
        have H := Lib.hid H
        go_wp2_with (fail)
        refine H.out.mono ?_
        rintro e w2 ⟨rfl, hb2⟩
        have hbb : Below w.heap.size w w2 := (hb.trans (hbr.out.mono hb.size)).trans (hb2.mono (Nat.le_trans hb.size hbr.out.size))
        go_wp2_with (fail)
        refine (awakeQ_calls _ (hv'.out.below hbb)).mono ?_
        rintro e w4 ⟨rfl, hb4⟩
        go_wp2
        go_ret
        exact ⟨rfl, hbb.trans (hb4.mono hbb.size)⟩
end Go.Proofs.YtdgbpmbknlhgmaaDoor
