/-
The walks through quote.Words, quote.Line.
-/
import Derived.Test.YtdgbpmbknlhgmaaDoorTexts
set_option linter.unusedVariables false
set_option linter.unusedSimpArgs false
namespace Go.Proofs.YtdgbpmbknlhgmaaDoor
open Go.RowKit Qt

/-- what a line comes to. -/
def wdE (l : List UInt8) : Int := if (words l).isSome then 0 else 3
def wdL (l : List UInt8) : List (List UInt8) := (words l).getD []
theorem wd_none {l : List UInt8} (h : words l = none) : wdL l = [] ∧ wdE l = 3 := by unfold wdL wdE; rw [h]; exact ⟨rfl, rfl⟩
theorem wd_some {l : List UInt8} {x : List (List UInt8)} (h : words l = some x) : wdL l = x ∧ wdE l = 0 := by unfold wdL wdE; rw [h]; exact ⟨rfl, rfl⟩
theorem words_ne {l : List UInt8} (h : l ≠ []) : words l = wordsFrom l := by unfold words; rw [if_neg h]
theorem ret_words {v : Value} {b d : Int} (h2 : b = d) : Ending.returned (Value.tuple #[v, .int .i64 b]) = Ending.returned (Value.tuple #[v, .int .i64 d]) := by rw [h2]
theorem one_str (a : ByteArray) : ∀ u ∈ [Value.string a], u.oneCell' = true := by
  intro u hu; simp at hu; subst hu; rfl
theorem str_info : (Tryd.prog.info? 9).map (fun i => (i.zero, i.size, i.bytes)) = some (some (.string ByteArray.empty), 1, 16) := by kernel_rfl
theorem max_below {w w' : World} {m : Int} (hm : w.cell? ⟨4, 0, none⟩ = some (.int .i64 m)) (hb : Below w.heap.size w w') : w'.cell? ⟨4, 0, none⟩ = some (.int .i64 m) := by
  refine (hb.cell (p := ⟨4, 0, none⟩) ?_).trans hm
  rcases Nat.lt_or_ge 4 w.heap.size with h' | h'
  · exact h'
  · simp [World.cell?, Array.getElem?_eq_none h'] at hm
theorem own_cap {w : World} {base : Nat} {e : TypeId} {size n c : Nat} {A : Option Addr} {xs : List Value} (h : w.ownsRow base e size (.slice A n c) n xs) : n ≤ c := by
  rcases h.2 with ⟨h0, h1⟩ | ⟨g, cap, cur, hv, _, _, hc, _⟩
  · omega
  · injection hv with _ _ hv; omega
def strLen : Value → Nat
  | .string b => b.size
  | _ => 0

set_option maxHeartbeats 4000000 in
set_option maxRecDepth 100000 in
theorem words_calls (s : ByteArray) (m : Int) (w : World) (hs : s.size ≤ 1000000) (hT : Lib.Utf8Tabs 0 1 w) (hm : w.cell? ⟨4, 0, none⟩ = some (.int .i64 m)) :
    Calls Tryd.prog 17 #[.string s] w fun e w' => ∃ A n c, e = .returned (.tuple #[.slice A n c, .int .i64 (wdE (toL s))]) ∧ n ≤ c ∧ TxAt w' A n (wdL (toL s)) ∧ Below w.heap.size w w' := by
  have hem : s.toList = toL s := by rw [ByteArray.toList_eq]; rfl
  have hsz := toL_size s
  by_cases h0 : toL s = []
  · have hem0 : s.toList.isEmpty = true := by rw [hem, h0]; rfl
    have hq := Lib.hid (wd_some (l := toL s) (by rw [h0]; rfl))
    clear hem h0
    go_enter Tryd.func17, Tryd.ntmps17
    go_wp2
    go_ret2
    exact ⟨none, 0, 0, ret_words hq.out.2.symm, Nat.le_refl 0, by rw [hq.out.1]; exact Reads.none_, Below.refl _ _⟩
  have hem0 : s.toList.isEmpty = false := by rw [hem, List.isEmpty_eq_false_iff]; exact h0
  have hw0 := Lib.hid (words_ne h0)
  obtain ⟨i0, hi, hz0, hz1, hz2⟩ := info_parts str_info
  have hm' := Lib.hid hm
  have hs0 := str_toL s
  generalize toL s = L at *
  obtain rfl := hs0
  rw [str_size] at hs
  clear hsz hem h0 hm
  go_enter Tryd.func17, Tryd.ntmps17
  go_wp2
  go_loopw [4, 0] (fun o ln wr => ∃ (A : Option Addr) (n c : Nat) (acc : List (List UInt8)) (t : List UInt8), o = .slice A n c ∧ ln = .string (str t) ∧ acc.length = n ∧ n + t.length ≤ L.length ∧ Hid (wr.ownsRow w.heap.size 9 1 (.slice A n c) n (sc acc)) ∧ Hid (wordsFrom L = (wordsFrom t).map (acc ++ ·)) ∧ Hid (Below w.heap.size w wr)) (fun _ ln _ => strLen ln)
  case atStart =>
    refine ⟨none, 0, 0, [], L, rfl, rfl, rfl, by omega, World.ownsRow_nil _ _ _ _, ?_, Below.refl _ _⟩
    show _ = _
    cases wordsFrom L <;> rfl
  case round =>
    obtain ⟨A, n, c, acc, t, rfl, rfl, hn, hnt, hown, hwf, hbw⟩ := hrel
    have hwz : w.heap.size ≤ wr.heap.size := hbw.out.size
    have hts := str_size t
    have H := word_calls (str t) m wr (by omega) (Utf8Tabs_below hT hbw.out) (max_below hm'.out hbw.out)
    rw [toL_str] at H
    rcases hwd : word t with _ | x
    · have hq := Lib.hid (wd_none (l := L) (by rw [hw0.out, hwf.out, wf_none hwd]; rfl))
      rw [hwd] at H
      clear hwd hwf
      go_wp2_with (fail)
      refine H.mono ?_
      rintro e w1 ⟨q, rfl, -, hb1⟩
      go_wp2
      go_ret2
      exact ⟨none, 0, 0, ret_words hq.out.2.symm, Nat.le_refl 0, by rw [hq.out.1]; exact Reads.none_, hbw.out.trans (hb1.mono hwz)⟩
    · obtain ⟨hx, r, rfl⟩ := word_some hwd
      have hx0 : 0 < x.length := List.length_pos_iff.2 (isWord_ne hx)
      have hdr : (x ++ r).drop x.length = r := by simp
      have hcut : (str (x ++ r)).extract x.length (x ++ r).length = str r := by
        rw [cut_eq _ _ _ (by simp), toL_str, hdr, List.take_of_length_le (by simp)]
      have hxs := str_size x
      have hxr : (x ++ r).length = x.length + r.length := by simp
      have hrs := str_size r
      rw [hwd] at H
      have H : Calls Tryd.prog 52 #[.string (str (x ++ r))] wr fun e w' => e = .returned (.tuple #[.string (str x), .bool true]) ∧ Below wr.heap.size wr w' :=
        H.mono fun e w' ⟨q, h1, h2, h3⟩ => ⟨by rw [h1, h2 x rfl]; rfl, h3⟩
      have hfin : Hid (r = [] → wdL L = acc ++ [x] ∧ wdE L = 0) := by
        show _ → _
        intro hr
        subst hr
        exact wd_some (by rw [hw0.out, hwf.out, wf_one hwd hdr]; rfl)
      have hbad : Hid (∀ c t, r = c :: t → c ≠ 32 → wdL L = [] ∧ wdE L = 3) := by
        show ∀ _, _
        intro c t hr hc
        subst hr
        exact wd_none (by rw [hw0.out, hwf.out, wf_bad hwd hdr hc]; rfl)
      have hstep : Hid (∀ t, r = 32 :: t → wordsFrom L = (wordsFrom t).map ((acc ++ [x]) ++ ·)) := by
        show ∀ _, _
        intro t hr
        subst hr
        rw [hwf.out, wf_step hwd hdr]
        cases wordsFrom t <;> simp
      clear hwf hwd hx hdr
      generalize hst : str (x ++ r) = st at *
      rw [hxr] at hnt hts hcut
      clear hst hxr
      have hem : r = [] ∨ ∃ c t, r = c :: t ∧ (str r).toList.isEmpty = false ∧ (∀ h : 0 < (str r).size, (str r)[0]'h = c) ∧ ((c.toNat : Int) == 32) = decide (c = 32) ∧ (str r).extract 1 r.length = str t := by
        cases r with
        | nil => exact .inl rfl
        | cons c t =>
          refine .inr ⟨c, t, rfl, by rw [str_toList]; rfl, fun h => by rw [str_at]; rfl, u8_eq c 32 (by omega), ?_⟩
          rw [cut_eq _ _ _ (by simp), toL_str]
          simp
      go_wp2_with (fail)
      refine H.mono ?_
      rintro e w1 ⟨rfl, hb1⟩
      have own1 := own_below hown.out hb1
      have hbw1 := hbw.out.trans (hb1.mono hwz)
      have hz := hb1.size
      go_wp2_with (at_builtin; refine wpList_append_own _ rfl _ _ 30 rfl w.heap.size 9 i0 (.string ByteArray.empty) 1 16 Tryd.underlying30 hi hz0 hz1 hz2 rfl (by decide) _ _ _ rfl (own1.alloc _) ⟨w1.heap.size, 0, none⟩ 1 1 [.string (str x)] rfl rfl (new_cell _ _ _) (one_str _) (by unfold maxLen; omega) (by omega) (by simp; omega) ?_)
      intro v' w2 hown' hgrow _
      rw [← sc_snoc] at hown'
      have hb2 : Below w.heap.size w w2 := ((hbw1).alloc (by omega) _).grown hgrow (by simp; omega) (fun k hk => (own1.lt k hk).1)
      obtain ⟨A', c', rfl⟩ : ∃ A' c', v' = .slice A' (n + 1) c' := by
        rcases hown'.2 with ⟨_, h0⟩ | ⟨g, cap, cur, hv, _⟩
        · omega
        · exact ⟨_, _, hv⟩
      have hown2 := Lib.hid hown'
      clear hown' hgrow H
      rcases hem with hr | ⟨c0, t, hr, he, hat, hc, hcut2⟩
      · have hq := Lib.hid (hfin.out hr)
        have he : (str r).toList.isEmpty = true := by rw [hr, str_toList]; rfl
        clear hr
        go_wp2
        go_ret2
        exact ⟨A', n + 1, c', ret_words hq.out.2.symm, own_cap hown2.out, by rw [hq.out.1]; exact Reads.of_own hown2.out, hb2⟩
      · have hrl : t.length < r.length := by rw [hr]; exact Nat.lt_succ_self _
        by_cases h32 : c0 = 32
        · subst h32
          have hs2 := Lib.hid (hstep.out t hr)
          have hts2 := str_size t
          rw [decide_eq_true rfl] at hc
          clear hr
          go_wp2
          go_roundw
          case rel => exact ⟨A', n + 1, c', acc ++ [x], t, rfl, rfl, by rw [List.length_append]; simp; omega, by omega, hown2, hs2, hb2⟩
          case measure => simp only [strLen]; omega
        · have hq := Lib.hid (hbad.out c0 t hr h32)
          rw [decide_eq_false h32] at hc
          clear hr
          go_wp2
          go_ret2
          exact ⟨none, 0, 0, ret_words hq.out.2.symm, Nat.le_refl 0, by rw [hq.out.1]; exact Reads.none_, hb2⟩

set_option maxHeartbeats 2000000 in
theorem line_calls (A : Option Addr) (n c : Nat) (ws : List (List UInt8)) (w : World) (hn : n ≤ c) (hl : (Lib.join ws [32]).length ≤ 1000000) (hn2 : n ≤ 1000000) (h : TxAt w A n ws) :
    Calls Tryd.prog 19 #[.slice A n c] w fun e w' => e = .returned (.string (str (Lib.join ws [32]))) ∧ Below w.heap.size w w' := by
  have hlen := h.len
  have H : Calls Tryd.prog 53 #[.slice A n c, .string ⟨#[32]⟩] w fun e w' => e = .returned (.string (str (Lib.join ws [32]))) ∧ Below w.heap.size w w' := by
    by_cases h0 : n = 0
    · subst h0
      have : ws = [] := List.eq_nil_of_length_eq_zero hlen
      subst this
      refine (Tryd.strings_Join_none A c ⟨#[32]⟩ w).mono ?_
      rintro e w' ⟨rfl, rfl⟩
      exact ⟨rfl, Below.refl _ _⟩
    · obtain ⟨b, off, rfl, hb, hc⟩ := h.at_ (by omega)
      have e1 : (ws.map str).map (·.data.toList) = ws := by
        rw [List.map_map]
        exact (List.map_congr_left (fun x _ => toL_str x)).trans (List.map_id _)
      have e2 : (⟨#[32]⟩ : ByteArray).data.toList = [32] := rfl
      have e3 : (ws.map str).length = n := by rw [List.length_map]; exact hlen
      have := Tryd.strings_Join b off c (ws.map str) ⟨#[32]⟩ w (fun j x hx => by
        rw [List.getElem?_map] at hx
        obtain ⟨y, hy, rfl⟩ := Option.map_eq_some_iff.1 hx
        have hj : j < ws.length := (List.getElem?_eq_some_iff.1 hy).1
        rw [hc j (by omega), List.getD_eq_getElem?_getD, hy]; rfl) hb (by omega) (by omega) (by rw [e1, e2]; omega)
      rw [e1, e2, e3] at this
      exact this
  have H' := Lib.hid H
  clear H h
  go_enter Tryd.func19, Tryd.ntmps19
  go_wp2_with (fail)
  refine H'.out.mono ?_
  rintro e w1 ⟨rfl, hb1⟩
  go_wp2
  go_ret
  exact ⟨rfl, hb1⟩
end Go.Proofs.YtdgbpmbknlhgmaaDoor
