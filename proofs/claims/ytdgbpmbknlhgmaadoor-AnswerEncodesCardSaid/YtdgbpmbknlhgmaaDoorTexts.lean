/-
Lists of texts in memory; the walks through changeoverref06.Texts, quote.Words, quote.Line.
-/
import Derived.Test.YtdgbpmbknlhgmaaDoorWordsB
set_option linter.unusedVariables false
set_option linter.unusedSimpArgs false
namespace Go.Proofs.YtdgbpmbknlhgmaaDoor
open Go.RowKit Qt

/-- texts as cells. -/
def sc (ws : List (List UInt8)) : List Value := ws.map fun x => .string (str x)
theorem sc_len (ws : List (List UInt8)) : (sc ws).length = ws.length := by simp [sc]
theorem sc_snoc (ws : List (List UInt8)) (x : List UInt8) : sc (ws ++ [x]) = sc ws ++ [Value.string (str x)] := by simp [sc]
theorem sc_at (ws : List (List UInt8)) (k : Nat) (h : k < ws.length) : (sc ws)[k]? = some (.string (str (ws.getD k []))) := by
  unfold sc
  rw [List.getElem?_map, List.getElem?_eq_getElem h, List.getD_eq_getElem?_getD, List.getElem?_eq_getElem h]; rfl
def TxAt (w : World) (A : Option Addr) (n : Nat) (ws : List (List UInt8)) : Prop := Reads w w.heap.size 1 A n (sc ws)
theorem TxAt.len {w : World} {A : Option Addr} {n : Nat} {ws : List (List UInt8)} (h : TxAt w A n ws) : ws.length = n := by have := h.1; rw [sc_len] at this; omega
theorem TxAt.below {w w' : World} {A : Option Addr} {n : Nat} {ws : List (List UInt8)} (h : TxAt w A n ws) (hb : Below w.heap.size w w') : TxAt w' A n ws := (Reads.below h hb).more hb.size
theorem TxAt.at_ {w : World} {A : Option Addr} {n : Nat} {ws : List (List UInt8)} (h : TxAt w A n ws) (hn : 0 < n) :
    ∃ b off, A = some ⟨b, off, none⟩ ∧ b < w.heap.size ∧ ∀ k, k < n → w.cell? ⟨b, off + k, none⟩ = some (.string (str (ws.getD k []))) := by
  obtain ⟨ad, e, hb, hc⟩ := h.2 hn
  obtain ⟨b, off, spot⟩ := ad
  have hspot : spot = none := by
    have g0 := hc _ _ (sc_at ws 0 (by rw [h.len]; omega))
    exact World.cell?_spot g0
  subst hspot
  have ha : ∀ j, Addr.add ⟨b, off, none⟩ j = ⟨b, off + j, none⟩ := fun j => by unfold Addr.add; split <;> simp_all
  refine ⟨b, off, e, hb, fun k hk => ?_⟩
  have g := hc _ _ (sc_at ws k (by rw [h.len]; omega))
  rw [ha] at g
  exact g
theorem str_inj {a b : List UInt8} (h : str a = str b) : a = b := by
  have := congrArg toL h
  rwa [toL_str, toL_str] at this
theorem take_next (ws : List (List UInt8)) (k : Nat) (h : k < ws.length) : ws.take (k + 1) = ws.take k ++ [ws.getD k []] := by
  rw [List.take_add_one, List.getElem?_eq_getElem h, Option.toList_some, List.getD_eq_getElem?_getD, List.getElem?_eq_getElem h, Option.getD_some]

set_option maxHeartbeats 2000000 in
theorem texts_calls (A : Option Addr) (n c : Nat) (xs : List (List UInt8)) (B : Option Addr) (m d : Nat) (ys : List (List UInt8)) (w : World) (hn : n ≤ 1000000) (hm : m ≤ 1000000) (h1 : TxAt w A n xs) (h2 : TxAt w B m ys) :
    Calls Tryd.prog 20 #[.slice A n c, .slice B m d] w fun e w' => e = .returned (.bool (decide (xs = ys))) ∧ Below w.heap.size w w' := by
  have l1 := h1.len
  have l2 := h2.len
  by_cases hnm : n = m
  · subst hnm
    have H1 := Lib.hid h1
    have H2 := Lib.hid h2
    clear h1 h2
    go_enter Tryd.func20, Tryd.ntmps20
    go_wp2
    go_loopw [5] (fun i wr => ∃ k : Nat, k ≤ n ∧ i = .int .i64 (k : Int) ∧ Hid (xs.take k = ys.take k) ∧ Hid (Below w.heap.size w wr)) (fun i _ => n - (intOf i).toNat)
    case atStart => exact ⟨0, by omega, rfl, rfl, Below.refl _ _⟩
    case round =>
      obtain ⟨k, hk, rfl, hq, hb⟩ := hrel
      by_cases hlt : k < n
      · obtain ⟨b1, o1, rfl, hb1, hc1⟩ := (H1.out.below hb.out).at_ (by omega)
        obtain ⟨b2, o2, rfl, hb2, hc2⟩ := (H2.out.below hb.out).at_ (by omega)
        have g1 := hc1 k hlt
        have g2 := hc2 k hlt
        have t1 := Lib.hid (take_next xs k (by omega))
        have t2 := Lib.hid (take_next ys k (by omega))
        have hne : Hid (xs.getD k [] ≠ ys.getD k [] → xs ≠ ys) := by
          show _ → _
          intro h e; exact h (by rw [e])
        clear hc1 hc2
        generalize xs.getD k [] = x at *
        generalize ys.getD k [] = y at *
        by_cases he : x = y
        · subst he
          go_wp2
          go_quiet (fail)
          go_wp2
          go_roundw
          case rel => exact ⟨k + 1, by omega, by go_num, (by show _ = _; rw [t1.out, t2.out, hq.out]), below_drewN hb.out _⟩
          case measure => simp [intOf]; omega
        · have hs : ((str x).toList == (str y).toList) = false := by
            rw [beq_eq_false_iff_ne, str_toList, str_toList]; exact he
          have hf := Lib.hid (hne.out he)
          clear he hne
          go_wp2
          go_quiet (fail)
          go_wp2
          go_ret
          exact ⟨ret_bool (decide_eq_false hf.out).symm, below_drewN hb.out _⟩
      · have hf : Hid (xs = ys) := by
          have := hq.out
          rw [List.take_of_length_le (by omega), List.take_of_length_le (by omega)] at this
          exact this
        go_wp2
        go_ret
        exact ⟨ret_bool (decide_eq_true hf.out).symm, hb.out⟩
  · have hf : Hid (xs ≠ ys) := by
      show _ ≠ _
      intro e; apply hnm; rw [← l1, ← l2, e]
    have t : ((n : Int) == (m : Int)) = false := by rw [beq_eq_false_iff_ne]; omega
    go_enter Tryd.func20, Tryd.ntmps20
    go_wp2
    go_ret
    exact ⟨ret_bool (decide_eq_false hf.out).symm, Below.refl _ _⟩
end Go.Proofs.YtdgbpmbknlhgmaaDoor
