/-
The walk through quote.Unquote.
-/
import Derived.Test.YtdgbpmbknlhgmaaDoorUnqB
set_option linter.unusedVariables false
set_option linter.unusedSimpArgs false
namespace Go.Proofs.YtdgbpmbknlhgmaaDoor
open Go.RowKit Qt

def uqT (l : List UInt8) : List UInt8 := (unquote l).getD []
def uqE (l : List UInt8) : Int := if (unquote l).isSome then 0 else 3
theorem uq_none {l : List UInt8} (h : unquote l = none) : uqT l = [] ∧ uqE l = 3 := by unfold uqT uqE; rw [h]; exact ⟨rfl, rfl⟩
theorem uq_some {l x : List UInt8} (h : unquote l = some x) : uqT l = x ∧ uqE l = 0 := by unfold uqT uqE; rw [h]; exact ⟨rfl, rfl⟩
theorem unquote_short {l : List UInt8} (h : l.length < 2) : unquote l = none := by
  unfold unquote
  split
  · rfl
  · rw [if_neg (by omega)]
theorem unquote_bad {l : List UInt8} (h : unbody (inner l) = none) : unquote l = none := by unfold unquote; rw [h]
theorem unquote_ne {l x : List UInt8} (h : unbody (inner l) = some x) (hq : quote x ≠ l) : unquote l = none := by
  unfold unquote; rw [h]; exact if_neg (fun h => hq h.2)
theorem unquote_eq {l x : List UInt8} (h : unbody (inner l) = some x) (h2 : 2 ≤ l.length) (hq : quote x = l) : unquote l = some x := by
  unfold unquote; rw [h]; exact if_pos ⟨h2, hq⟩
/-- what of a text's inside lies from a place on. -/
def tl (s : ByteArray) (p : Nat) : List UInt8 := ((toL s).drop p).take (s.size - 1 - p)
theorem tl_len (s : ByteArray) (p : Nat) : (tl s p).length = s.size - 1 - p := by
  unfold tl; rw [List.length_take, List.length_drop, toL_size]; omega
theorem tl_one (s : ByteArray) : tl s 1 = inner (toL s) := by
  unfold tl inner; rw [toL_size, show s.size - 1 - 1 = s.size - 2 by omega]
theorem tl_drop (s : ByteArray) (p k : Nat) : (tl s p).drop k = tl s (p + k) := by
  unfold tl; rw [List.drop_take, List.drop_drop, show s.size - 1 - p - k = s.size - 1 - (p + k) by omega]
theorem tl_cut (s : ByteArray) (p : Nat) (h : p ≤ s.size - 1) : s.extract p (s.size - 1) = str (tl s p) := cut_eq s p _ h
theorem tl_cons (s : ByteArray) (p : Nat) (h : p < s.size - 1) (h2 : p < s.size) : tl s p = s[p]'h2 :: tl s (p + 1) := by
  have hl := tl_len s p
  have hd := tl_drop s p 1
  have ha := at_drop s p 0 (by omega)
  have hg : (tl s p).getD 0 0 = s[p]'h2 := by
    show _ = s[p + 0]'(by omega)
    rw [ha]
    unfold tl
    rw [List.getD_eq_getElem?_getD, List.getD_eq_getElem?_getD, List.getElem?_take, if_pos (by omega)]
  cases ht : tl s p with
  | nil => rw [ht] at hl; simp at hl; omega
  | cons a t =>
    rw [ht] at hd hg
    rw [← hd, ← hg]; rfl
theorem own_below {w w' : World} {base : Nat} {e : TypeId} {size n : Nat} {v : Value} {xs : List Value} (h : w.ownsRow base e size v n xs) (hb : Below w.heap.size w w') : w'.ownsRow base e size v n xs :=
  h.kept (row := none) ⟨hb.os, hb.tape, hb.output, hb.size, fun k hk _ => hb.block k hk⟩ (Classical.em _)
theorem byteCells_snoc1 (l : List UInt8) (x : UInt8) : Lib.byteCells (l ++ [x]) = Lib.byteCells l ++ [Value.int .u8 (x.toNat : Int)] := by rw [Lib.byteCells_append]; rfl
theorem ret_unq {a c : ByteArray} {b d : Int} (h1 : a = c) (h2 : b = d) : Ending.returned (Value.tuple #[.string a, .int .i64 b]) = Ending.returned (Value.tuple #[.string c, .int .i64 d]) := by rw [h1, h2]

set_option maxHeartbeats 4000000 in
set_option maxRecDepth 100000 in
theorem unquote_calls (s : ByteArray) (w : World) (hs : s.size ≤ 1000000) (hT : Lib.Utf8Tabs 0 1 w) :
    Calls Tryd.prog 14 #[.string s] w fun e w' => e = .returned (.tuple #[.string (str (uqT (toL s))), .int .i64 (uqE (toL s))]) ∧ Below w.heap.size w w' := by
  obtain ⟨i0, hi, hz0, hz1, hz2⟩ := info_parts bByte
  go_enter Tryd.func14, Tryd.ntmps14
  go_wp2
  go_loopw [4, 5] (fun o i wr => ∃ (A : Option Addr) (n c pos : Nat) (acc : List UInt8), o = .slice A n c ∧ i = .int .i64 (pos : Int) ∧ 1 ≤ pos ∧ acc.length = n ∧ n ≤ pos ∧ (pos ≤ s.size - 1 ∨ pos = 1) ∧ Hid (wr.ownsRow w.heap.size 5 1 (.slice A n c) n (Lib.byteCells acc)) ∧ Hid (unbody (inner (toL s)) = (unbody (tl s pos)).map (acc ++ ·)) ∧ Hid (Below w.heap.size w wr)) (fun _ i _ => s.size - (intOf i).toNat)
  case atStart =>
    refine ⟨none, 0, 0, 1, [], rfl, rfl, by omega, rfl, by omega, .inr rfl, World.ownsRow_nil _ _ _ _, ?_, Below.refl _ _⟩
    show _ = _
    rw [tl_one]; cases unbody (inner (toL s)) <;> rfl
  case round =>
    obtain ⟨A, n, c, pos, acc, rfl, rfl, h1, hn, hnp, hps, hown, hub, hbw⟩ := hrel
    have hwz : w.heap.size ≤ wr.heap.size := hbw.out.size
    by_cases hp : pos + 1 < s.size
    · obtain ⟨x, hat⟩ : ∃ x, ∀ h : pos < s.size, s[pos]'h = x := ⟨s[pos]'(by omega), fun _ => rfl⟩
      have htc := tl_cons s pos (by omega) (by omega)
      rw [hat] at htc
      have hlt := tl_len s (pos + 1)
      have hcut := tl_cut s (pos + 1) (by omega)
      have hun := unescape_calls (tl s (pos + 1)) wr (by omega)
      have htd := tl_drop s (pos + 1)
      have hxe : ((x.toNat : Int) == 92) = decide (x = 92) := u8_eq x 92 (by omega)
      have hcx : ((pos : Int) + 1) = ((pos + 1 : Nat) : Int) := by omega
      generalize htl : tl s (pos + 1) = t at *
      by_cases hx : x = 92
      · rcases hue : unesc1 t with _ | ⟨y, k⟩
        · have hq := uq_none (unquote_bad (by rw [hub.out, htc, hx, unbody_none _ hue]; rfl))
          have hun0 : Calls Tryd.prog 49 #[.string (str t)] wr fun e w' => e = .returned (.tuple #[.int .u8 0, .int .i64 0]) ∧ Below wr.heap.size wr w' := by
            rw [ue_none hue] at hun; exact hun
          rw [decide_eq_true hx] at hxe
          clear hun hub htd htc hcx
          go_wp2_with (fail)
          refine hun0.mono ?_
          rintro e w1 ⟨rfl, hb1⟩
          go_wp2_with (fail)
          go_ret2
          exact ⟨ret_unq (by rw [hq.1]; rfl) hq.2.symm, hbw.out.trans (hb1.mono hwz)⟩
        · have hk := unesc1_pos hue
          have hub2 : Hid (unbody (inner (toL s)) = (unbody (tl s (pos + k + 1))).map ((acc ++ [y]) ++ ·)) := by
            show _ = _
            rw [hub.out, htc, hx, unbody_esc _ _ _ hue, htd, show pos + 1 + k = pos + k + 1 by omega]
            cases unbody (tl s (pos + k + 1)) <;> simp
          have hun0 : Calls Tryd.prog 49 #[.string (str t)] wr fun e w' => e = .returned (.tuple #[.int .u8 (y.toNat : Int), .int .i64 (k : Int)]) ∧ Below wr.heap.size wr w' := by
            rw [ue_some hue] at hun; exact hun
          have k0 : ((k : Int) == 0) = false := by rw [beq_eq_false_iff_ne]; omega
          rw [decide_eq_true hx] at hxe
          clear hun hub htd htc hcx
          go_wp2_with (fail)
          refine hun0.mono ?_
          rintro e w1 ⟨rfl, hb1⟩
          have own1 := own_below hown.out hb1
          have hbw1 := hbw.out.trans (hb1.mono hwz)
          have hz := hb1.size
          go_wp2_with (at_builtin; refine wpList_append_own _ rfl _ _ 36 rfl w.heap.size 5 i0 (.int .u8 0) 1 1 Tryd.underlying36 hi hz0 hz1 hz2 rfl (by decide) _ _ _ rfl (own1.alloc _) ⟨w1.heap.size, 0, none⟩ 1 1 [.int .u8 (y.toNat : Int)] rfl rfl ?c1 ?c2 ?c3 ?c4 ?c5 ?_)
          case c1 =>
            intro j u hj
            match j, hj with
            | 0, hj => simp at hj; subst hj; simp [Addr.add]
          case c2 => intro u hu; simp at hu; subst hu; rfl
          case c3 => unfold maxLen; omega
          case c4 => omega
          case c5 => simp; omega
          intro v' w2 hown' hgrow _
          rw [← byteCells_snoc1] at hown'
          have hb2 : Below w.heap.size w w2 := ((hbw1).alloc (by omega) _).grown hgrow (by simp; omega) (fun k hk => (own1.lt k hk).1)
          obtain ⟨A', c', rfl⟩ : ∃ A' c', v' = .slice A' (n + 1) c' := by
            rcases hown'.2 with ⟨_, h0⟩ | ⟨g, cap, cur, hv, _⟩
            · omega
            · exact ⟨_, _, hv⟩
          have hown2 := Lib.hid hown'
          clear hown' hgrow
          go_wp2
          go_roundw
          case rel => exact ⟨A', n + 1, c', pos + k + 1, acc ++ [y], rfl, by go_num, by omega, by rw [List.length_append]; simp; omega, by omega, by omega, hown2, hub2, hb2⟩
          case measure => simp [intOf]; omega
      · have hub2 : Hid (unbody (inner (toL s)) = (unbody (tl s (pos + 0 + 1))).map ((acc ++ [x]) ++ ·)) := by
          show _ = _
          rw [hub.out, htc, unbody_plain _ _ hx, Nat.add_zero, htl]
          cases unbody t <;> simp
        rw [decide_eq_false hx] at hxe
        have own1 := hown.out
        have hbw1 := hbw.out
        clear hun hub htd htc hcx
        go_wp2_with (at_builtin; refine wpList_append_own _ rfl _ _ 36 rfl w.heap.size 5 i0 (.int .u8 0) 1 1 Tryd.underlying36 hi hz0 hz1 hz2 rfl (by decide) _ _ _ rfl (own1.alloc _) ⟨wr.heap.size, 0, none⟩ 1 1 [.int .u8 (x.toNat : Int)] rfl rfl ?c1 ?c2 ?c3 ?c4 ?c5 ?_)
        case c1 =>
          intro j u hj
          match j, hj with
          | 0, hj => simp at hj; subst hj; simp [Addr.add]
        case c2 => intro u hu; simp at hu; subst hu; rfl
        case c3 => unfold maxLen; omega
        case c4 => omega
        case c5 => simp; omega
        intro v' w2 hown' hgrow _
        rw [← byteCells_snoc1] at hown'
        have hb2 : Below w.heap.size w w2 := ((hbw1).alloc (by omega) _).grown hgrow (by simp; omega) (fun k hk => (own1.lt k hk).1)
        obtain ⟨A', c', rfl⟩ : ∃ A' c', v' = .slice A' (n + 1) c' := by
          rcases hown'.2 with ⟨_, h0⟩ | ⟨g, cap, cur, hv, _⟩
          · omega
          · exact ⟨_, _, hv⟩
        have hown2 := Lib.hid hown'
        clear hown' hgrow
        go_wp2
        go_roundw
        case rel => exact ⟨A', n + 1, c', pos + 0 + 1, acc ++ [x], rfl, by go_num, by omega, by rw [List.length_append]; simp; omega, by omega, by omega, hown2, hub2, hb2⟩
        case measure => simp [intOf]; omega
    · by_cases h2 : s.size < 2
      · have hq := Lib.hid (uq_none (unquote_short (l := toL s) (by rw [toL_size]; exact h2)))
        go_wp2
        go_ret2
        exact ⟨ret_unq (by rw [hq.out.1]; rfl) hq.out.2.symm, hbw.out⟩
      · have hall : unbody (inner (toL s)) = some acc := by
          rw [hub.out, show tl s pos = [] from List.eq_nil_of_length_eq_zero (by rw [tl_len]; omega), unbody_nil]
          simp
        have hcv := convert_own hown.out
        have hqc := quote_calls (str acc) wr (by rw [str_size]; omega) (Utf8Tabs_below hT hbw.out)
        rw [toL_str] at hqc
        by_cases hqe : quote acc = toL s
        · have hq := Lib.hid (uq_some (unquote_eq hall (by rw [toL_size]; omega) hqe))
          have hse : ((str (quote acc)).toList == s.toList) = true := by rw [beq_iff_eq, str_toList, hqe, ByteArray.toList_eq]; rfl
          clear hall hqe
          go_wp2_with (fail)
          refine hqc.mono ?_
          rintro e w1 ⟨rfl, hb1⟩
          have hcv1 := convert_own (own_below hown.out hb1)
          clear hcv
          go_wp2
          go_ret2
          exact ⟨ret_unq (by rw [hq.out.1]) hq.out.2.symm, hbw.out.trans (hb1.mono hwz)⟩
        · have hq := Lib.hid (uq_none (unquote_ne hall hqe))
          have hse : ((str (quote acc)).toList == s.toList) = false := by
            rw [beq_eq_false_iff_ne, str_toList, ByteArray.toList_eq]; exact hqe
          clear hall hqe
          go_wp2_with (fail)
          refine hqc.mono ?_
          rintro e w1 ⟨rfl, hb1⟩
          clear hcv
          go_wp2
          go_ret2
          exact ⟨ret_unq (by rw [hq.out.1]; rfl) hq.out.2.symm, hbw.out.trans (hb1.mono hwz)⟩
end Go.Proofs.YtdgbpmbknlhgmaaDoor
