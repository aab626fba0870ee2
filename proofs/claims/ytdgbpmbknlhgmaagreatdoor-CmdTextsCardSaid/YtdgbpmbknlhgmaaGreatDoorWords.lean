/-
The walks through quote.quoted, changeoverref06.Word.
The walk through quote.word.
Lists of texts in memory; the walks through changeoverref06.Texts, quote.Words, quote.Line.
The walks through quote.Words, quote.Line.
-/
import Derived.Test.YtdgbpmbknlhgmaaGreatDoorUnqD
import Derived.Test.YtdgbpmbknlhgmaaGreatDoorQuoteMath
import Derived.Lib.IndexMore
import Derived.Lib.ConvBytes
set_option linter.unusedVariables false
set_option linter.unusedSimpArgs false
namespace Go.Proofs.YtdgbpmbknlhgmaaGreatDoor
open Go.RowKit Qt

theorem index_head (l : List UInt8) : (Lib.index l [32] = -1 ∧ head l = l) ∨ (∃ n : Nat, Lib.index l [32] = n ∧ head l = l.take n) := by
  induction l with
  | nil => exact .inl ⟨rfl, rfl⟩
  | cons a l ih =>
    unfold head at ih ⊢
    by_cases ha : a = 32
    · subst ha
      exact .inr ⟨0, rfl, rfl⟩
    · have h1 : (a != 32) = true := by simpa using ha
      have h2 : ([32] : List UInt8).isPrefixOf (a :: l) = false := by
        simp [List.isPrefixOf]; exact fun e => ha e.symm
      have h3 : Lib.index (a :: l) [32] = if Lib.index l [32] == -1 then -1 else Lib.index l [32] + 1 := by
        rw [Lib.index, if_neg (by rw [h2]; exact Bool.false_ne_true)]
      rcases ih with ⟨i1, i2⟩ | ⟨n, i1, i2⟩
      · refine .inl ⟨by rw [h3, i1]; rfl, ?_⟩
        rw [List.takeWhile_cons, if_pos h1, i2]
      · refine .inr ⟨n + 1, ?_, ?_⟩
        · rw [h3, i1, if_neg (by simp)]; rfl
        · rw [List.takeWhile_cons, if_pos h1, i2]; rfl
theorem cut_head (l : List UInt8) : (Lib.cut l [32]).1 = head l := by
  unfold Lib.cut
  rcases index_head l with ⟨h1, h2⟩ | ⟨n, h1, h2⟩
  · rw [h1, if_neg (by decide), h2]
  · rw [h1, if_pos (by omega), h2]; rfl

theorem qend_at (s : ByteArray) (i : Nat) (h : i < s.size) (x : UInt8) (hx : s[i]'h = x) : (toL s).drop i = x :: (toL s).drop (i + 1) := by
  have hl : i < (toL s).length := by rw [toL_size]; exact h
  rw [List.drop_eq_getElem_cons hl]
  congr 1
set_option maxHeartbeats 2000000 in
set_option maxRecDepth 100000 in
theorem quoted_calls (s : ByteArray) (w : World) (hs : s.size ≤ 1000000) :
    Calls Tryz.prog 120 #[.string s] w fun e w' => e = .returned (.int .i64 (quotedN (toL s) : Int)) ∧ w = w' := by
  go_enter Tryz.func120, Tryz.ntmps120
  go_wp2
  go_loop [3] (fun i => ∃ k : Nat, i = .int .i64 (k : Int) ∧ 1 ≤ k ∧ k ≤ s.size + 1 ∧ Hid (qend ((toL s).drop 1) = (qend ((toL s).drop k)).map (· + (k - 1)))) (fun i => s.size + 1 - (intOf i).toNat)
  case atStart =>
    refine ⟨1, rfl, by omega, by omega, ?_⟩
    show _ = _
    cases qend ((toL s).drop 1) <;> rfl
  case round =>
    obtain ⟨k, rfl, h1, h2, hq⟩ := hrel
    by_cases hk : k < s.size
    · obtain ⟨x, hat⟩ : ∃ x, ∀ h : k < s.size, s[k]'h = x := ⟨s[k]'hk, fun _ => rfl⟩
      have hc := qend_at s k hk x (hat hk)
      have e92 : ((x.toNat : Int) == 92) = decide (x = 92) := u8_eq x 92 (by omega)
      have e34 : ((x.toNat : Int) == 34) = decide (x = 34) := u8_eq x 34 (by omega)
      by_cases h92 : x = 92
      · rw [decide_eq_true h92] at e92
        have hn : Hid (qend ((toL s).drop 1) = (qend ((toL s).drop (k + 2))).map (· + (k + 2 - 1))) := by
          show _ = _
          rw [hq.out, hc, h92]
          by_cases hk1 : k + 1 < s.size
          · rw [qend_at s (k + 1) hk1 _ rfl, qend_esc]
            cases qend ((toL s).drop (k + 1 + 1)) <;> simp
            omega
          · rw [List.drop_eq_nil_of_le (by rw [toL_size]; omega), List.drop_eq_nil_of_le (by rw [toL_size]; omega), qend_esc0, qend_nil]; rfl
        clear hc hq h92 e34
        go_wp2
        go_round
        case rel => exact ⟨k + 2, by go_num, by omega, by omega, hn⟩
        case measure => simp [intOf]; omega
      · rw [decide_eq_false h92] at e92
        by_cases h34 : x = 34
        · rw [decide_eq_true h34] at e34
          have hf : Hid (quotedN (toL s) = k + 1) := by
            show _ = _
            unfold quotedN
            rw [hq.out, hc, h34, qend_q]
            simp; omega
          clear hc hq h92 h34
          go_wp2
          go_ret
          exact ⟨ret_int (by rw [hf.out]; go_num), rfl⟩
        · rw [decide_eq_false h34] at e34
          have hn : Hid (qend ((toL s).drop 1) = (qend ((toL s).drop (k + 1))).map (· + (k + 1 - 1))) := by
            show _ = _
            rw [hq.out, hc, qend_plain _ _ h34 h92]
            cases qend ((toL s).drop (k + 1)) <;> simp
            omega
          clear hc hq h92 h34
          go_wp2
          go_round
          case rel => exact ⟨k + 1, by go_num, by omega, by omega, hn⟩
          case measure => simp [intOf]; omega
    · have hf : Hid (quotedN (toL s) = 0) := by
        show _ = _
        unfold quotedN
        rw [hq.out, List.drop_eq_nil_of_le (by rw [toL_size]; omega), qend_nil]; rfl
      go_wp2
      go_ret
      exact ⟨ret_int (by rw [hf.out]; rfl), rfl⟩

end Go.Proofs.YtdgbpmbknlhgmaaGreatDoor
set_option linter.unusedVariables false
set_option linter.unusedSimpArgs false
namespace Go.Proofs.YtdgbpmbknlhgmaaGreatDoor
open Go.RowKit Qt

set_option maxRecDepth 100000 in
theorem to_bytes (w : World) (s : ByteArray) : ∃ cap W2, (convert 9 26 (.string s)).run Tryz.prog w = .ok (.slice (some ⟨w.heap.size, 0, none⟩) s.size cap) W2 ∧ Below w.heap.size w W2 ∧ w.heap.size < W2.heap.size ∧
    ∀ j, j < s.size → W2.cell? ⟨w.heap.size, j, none⟩ = some (.int .u8 (((toL s).getD j 0).toNat : Int)) := by
  refine ⟨_, _, Lib.run_convert_string_bytes (P := Tryz.prog) w 9 26 5 s Tryz.underlying9 Tryz.underlying26 Tryz.underlying5, ⟨rfl, rfl, rfl, ?_, fun k hk => Lib.bytesWorld_at_old w _ s k hk⟩, ?_, fun j hj => Lib.bytesWorld_cell w _ s j hj⟩
  · rw [Lib.bytesWorld_size]; omega
  · rw [Lib.bytesWorld_size]; omega

theorem cut_calls (s : ByteArray) (m : Int) (w : World) (hs : s.size ≤ 1000000) (hm : w.cell? ⟨5, 0, none⟩ = some (.int .i64 m)) :
    Calls Tryz.prog 121 #[.string s, .string ⟨#[32]⟩] w fun e w' => ∃ a b, e = .returned (.tuple #[.string (str (head (toL s))), a, b]) ∧ Below w.heap.size w w' := by
  refine (Tryz.strings_Cut s ⟨#[32]⟩ m w (by omega) hm).mono ?_
  rintro e w' ⟨rfl, n, rfl⟩
  have e1 : (⟨(Lib.cut s.data.toList (⟨#[32]⟩ : ByteArray).data.toList).1.toArray⟩ : ByteArray) = str (head (toL s)) := by rw [← cut_head (toL s)]; rfl
  rw [e1]
  exact ⟨_, _, rfl, below_drewN (Below.refl _ _) n⟩

theorem word_quoted {l : List UInt8} (h : l ≠ []) (h34 : b0 l = 34) : word l = if (unquote (l.take (quotedN l))).isSome then some (l.take (quotedN l)) else none := by
  unfold word; rw [if_pos ⟨h, h34⟩]
theorem word_plain {l : List UInt8} (h : l = [] ∨ b0 l ≠ 34) : word l = if (head l).any (fun c => decide (c.toNat < 32)) then none else if head l = [] then none else some (head l) := by
  unfold word; rw [if_neg (fun k => h.elim k.1 (fun h => h k.2))]
theorem quotedN_le (l : List UInt8) : quotedN l ≤ l.length := by
  have hq : ∀ (m : Nat) (l : List UInt8), l.length ≤ m → ∀ k, qend l = some k → k ≤ l.length := by
    intro m
    induction m with
    | zero =>
      intro l h k hk
      obtain rfl : l = [] := List.eq_nil_of_length_eq_zero (by omega)
      rw [qend_nil] at hk; cases hk
    | succ m ih =>
      intro l h k hk
      match l, h, hk with
      | [], h, hk => rw [qend_nil] at hk; cases hk
      | c :: t, h, hk =>
        by_cases h1 : c = 34
        · subst h1; rw [qend_q] at hk; cases hk; simp
        · by_cases h2 : c = 92
          · subst h2
            match t, h, hk with
            | [], h, hk => rw [qend_esc0] at hk; cases hk
            | x :: t, h, hk =>
              rw [qend_esc] at hk
              cases he : qend t with
              | none => rw [he] at hk; cases hk
              | some v => rw [he] at hk; cases hk; have := ih t (by simp at h; omega) v he; simp; omega
          · rw [qend_plain _ _ h1 h2] at hk
            cases he : qend t with
            | none => rw [he] at hk; cases hk
            | some v => rw [he] at hk; cases hk; have := ih t (by simp at h; omega) v he; simp; omega
  unfold quotedN
  split
  · rename_i k hk
    have := hq _ _ (Nat.le_refl _) k hk
    have hne : l ≠ [] := by rintro rfl; rw [show ([] : List UInt8).drop 1 = [] from rfl, qend_nil] at hk; cases hk
    have hl : 1 ≤ l.length := List.length_pos_iff.2 hne
    rw [List.length_drop] at this; omega
  · omega
theorem head_len (l : List UInt8) : (head l).length ≤ l.length := by
  unfold head; exact (List.takeWhile_sublist _).length_le

set_option maxHeartbeats 4000000 in
set_option maxRecDepth 100000 in
theorem word_calls (s : ByteArray) (m : Int) (w : World) (hs : s.size ≤ 1000000) (hT : Lib.Utf8Tabs 0 1 w) (hm : w.cell? ⟨5, 0, none⟩ = some (.int .i64 m)) :
    Calls Tryz.prog 96 #[.string s] w fun e w' => ∃ t, e = .returned (.tuple #[.string t, .bool (word (toL s)).isSome]) ∧ (∀ x, word (toL s) = some x → t = str x) ∧ Below w.heap.size w w' := by
  have hem : s.toList = toL s := by rw [ByteArray.toList_eq]; rfl
  have hsz := toL_size s
  by_cases hq : toL s ≠ [] ∧ b0 (toL s) = 34
  · have hne : ¬ s.toList = [] := by rw [hem]; exact hq.1
    have hpos : 0 < s.size := by rw [← hsz]; exact List.length_pos_iff.2 hq.1
    have hat : ∀ h : 0 < s.size, s[0]'h = 34 := fun h => by
      have := at_drop s 0 0 hpos
      rw [List.drop_zero] at this
      have h2 : s[0]'h = b0 (toL s) := this
      rw [h2, hq.2]
    have hw := word_quoted hq.1 hq.2
    have hql := quotedN_le (toL s)
    have hcut : s.extract 0 (quotedN (toL s)) = str ((toL s).take (quotedN (toL s))) := by
      rw [cut_eq _ _ _ (Nat.zero_le _)]; rfl
    have H1 := quoted_calls s w hs
    have H2 := unquote_calls (str ((toL s).take (quotedN (toL s)))) w (by rw [str_size, List.length_take]; omega) hT
    rw [toL_str] at H2
    have hE : Hid (decide (uqE ((toL s).take (quotedN (toL s))) = 0) = (word (toL s)).isSome) := by
      show _ = _
      rw [hw]; unfold uqE
      cases unquote ((toL s).take (quotedN (toL s))) <;> rfl
    have hE2 : Hid (∀ x, word (toL s) = some x → str ((toL s).take (quotedN (toL s))) = str x) := by
      show ∀ x, _
      intro x hx
      rw [hw] at hx
      split at hx
      · cases hx; rfl
      · cases hx
    clear hw hq hem
    generalize uqE ((toL s).take (quotedN (toL s))) = ue at *
    generalize uqT ((toL s).take (quotedN (toL s))) = ut at *
    generalize str ((toL s).take (quotedN (toL s))) = q at *
    generalize hn : quotedN (toL s) = n at *
    have hue : (ue == 0) = decide (ue = 0) := by
      by_cases h : ue = 0
      · subst h; rfl
      · rw [decide_eq_false h, beq_eq_false_iff_ne]; exact h
    have hne2 : (!s.toList.isEmpty) = true := by
      cases h : s.toList with
      | nil => exact absurd h hne
      | cons a t => rfl
    clear hne
    go_enter Tryz.func96, Tryz.ntmps96
    go_wp2_with (fail)
    refine H1.mono ?_
    rintro e w1 ⟨rfl, rfl⟩
    go_wp2_with (fail)
    refine H2.mono ?_
    rintro e w1 ⟨rfl, hb1⟩
    go_wp2
    go_ret2
    exact ⟨_, ret_is (by rw [← hE.out]), hE2.out, hb1⟩
  · have hq' : toL s = [] ∨ b0 (toL s) ≠ 34 := by
      by_cases h : toL s = []
      · exact .inl h
      · exact .inr fun e => hq ⟨h, e⟩
    have hw := word_plain hq'
    have H1 := cut_calls s m w hs hm
    have hhl := head_len (toL s)
    have hhs := str_size (head (toL s))
    have hhd : ∀ k, (head (toL s)).getD k 0 = (toL (str (head (toL s)))).getD k 0 := fun k => by rw [toL_str]
    have hcase : (!s.toList.isEmpty) = false ∨ ((!s.toList.isEmpty) = true ∧ ∃ x : UInt8, ((x.toNat : Int) == 34) = false ∧ ∃ h : 0 < s.size, s[0]'h = x) := by
      rw [hem]
      by_cases h0 : toL s = []
      · rw [h0]; exact .inl rfl
      · have hpos : 0 < s.size := by rw [← hsz]; exact List.length_pos_iff.2 h0
        have h34 := hq'.resolve_left h0
        refine .inr ⟨?_, b0 (toL s), ?_, hpos, ?_⟩
        · cases h : toL s with
          | nil => exact absurd h h0
          | cons a t => rfl
        · have : (((b0 (toL s)).toNat : Int) == 34) = decide (b0 (toL s) = 34) := u8_eq (b0 (toL s)) 34 (by omega)
          rw [decide_eq_false h34] at this; exact this
        · have := at_drop s 0 0 hpos
          rw [List.drop_zero] at this; exact this
    have hno : Hid ((head (toL s)).any (fun c => decide (c.toNat < 32)) = true → (word (toL s)).isSome = false ∧ ∀ x, word (toL s) = some x → False) := by
      show _ → _
      intro h
      rw [hw, if_pos h]; exact ⟨rfl, fun x h => by cases h⟩
    have hyes : Hid ((head (toL s)).any (fun c => decide (c.toNat < 32)) = false → (!(str (head (toL s))).toList.isEmpty) = (word (toL s)).isSome ∧ ∀ x, word (toL s) = some x → str (head (toL s)) = str x) := by
      show _ → _
      intro h
      rw [hw, if_neg (by rw [h]; exact Bool.false_ne_true), str_toList]
      by_cases hn : head (toL s) = []
      · rw [if_pos hn, hn]; exact ⟨rfl, fun x h => by cases h⟩
      · rw [if_neg hn]
        refine ⟨?_, fun x h => by cases h; rfl⟩
        cases h : head (toL s) with
        | nil => exact absurd h hn
        | cons a t => rfl
    clear hw hq hq' hem
    generalize hh : head (toL s) = hd at *
    rcases hcase with hne | ⟨hne, x, hx, hpos, hat⟩
    all_goals
      go_enter Tryz.func96, Tryz.ntmps96
      go_wp2_with (fail)
      refine H1.mono ?_
      rintro e w1 ⟨a, b, rfl, hb1⟩
      obtain ⟨cap, W2, hcv, hb2, hlt, hcells⟩ := to_bytes w1 (str hd)
      rw [hhs] at hcv hcells
      rw [toL_str] at hcells
      go_wp2
      go_loop [42] (fun i => ∃ k : Nat, i = .int .i64 (k : Int) ∧ k ≤ hd.length ∧ Hid (hd.any (fun c => decide (c.toNat < 32)) = (hd.drop k).any (fun c => decide (c.toNat < 32)))) (fun i => hd.length - (intOf i).toNat)
      case atStart => exact ⟨0, rfl, by omega, rfl⟩
      case round =>
        obtain ⟨k, rfl, hk, hq⟩ := hrel
        by_cases hlt2 : k < hd.length
        · have hc := hcells k hlt2
          have hdk : hd.drop k = hd.getD k 0 :: hd.drop (k + 1) := by
            rw [List.drop_eq_getElem_cons hlt2, List.getD_eq_getElem?_getD, List.getElem?_eq_getElem hlt2]; rfl
          rw [hdk, List.any_cons] at hq
          generalize hd.getD k 0 = y at *
          by_cases hy : y.toNat < 32
          · have hf := Lib.hid (hno.out (by rw [hq.out, decide_eq_true hy]; rfl))
            clear hq hcells hcv
            go_wp2
            go_ret2
            exact ⟨_, ret_is hf.out.1.symm, fun x hx => (hf.out.2 x hx).elim, hb1.trans (hb2.mono hb1.size)⟩
          · have hf : Hid (hd.any (fun c => decide (c.toNat < 32)) = (hd.drop (k + 1)).any (fun c => decide (c.toNat < 32))) := by
              show _ = _
              rw [hq.out, decide_eq_false hy]; rfl
            clear hq hcells hcv
            go_wp2
            go_round
            case rel => exact ⟨k + 1, by go_num, by omega, hf⟩
            case measure => simp [intOf]; omega
        · have hf := Lib.hid (hyes.out (by rw [hq.out, List.drop_eq_nil_of_le (by omega)]; rfl))
          clear hq hcells hcv
          go_wp2
          go_ret2
          exact ⟨_, ret_is hf.out.1, hf.out.2, hb1.trans (hb2.mono hb1.size)⟩
end Go.Proofs.YtdgbpmbknlhgmaaGreatDoor
set_option linter.unusedVariables false
set_option linter.unusedSimpArgs false
namespace Go.Proofs.YtdgbpmbknlhgmaaGreatDoor
open Go.RowKit Qt

/-- texts as cells. -/
def sc (ws : List (List UInt8)) : List Value := ws.map fun x => .string (str x)
theorem sc_len (ws : List (List UInt8)) : (sc ws).length = ws.length := by simp [sc]
theorem sc_snoc (ws : List (List UInt8)) (x : List UInt8) : sc (ws ++ [x]) = sc ws ++ [Value.string (str x)] := by simp [sc]
theorem sc_at (ws : List (List UInt8)) (k : Nat) (h : k < ws.length) : (sc ws)[k]? = some (.string (str (ws.getD k []))) := by
  unfold sc
  rw [List.getElem?_map, List.getElem?_eq_getElem h, List.getD_eq_getElem?_getD, List.getElem?_eq_getElem h]; rfl
def TxAt (w : World) (A : Option Addr) (n : Nat) (ws : List (List UInt8)) : Prop := Reads w w.heap.size 1 A n (sc ws)
theorem TxAt.len {w : World} {A : Option Addr} {n : Nat} {ws : List (List UInt8)} (h : TxAt w A n ws) : ws.length = n := by have := h.1; rw [sc_len] at this; omega
theorem TxAt.below {w w' : World} {A : Option Addr} {n : Nat} {ws : List (List UInt8)} (h : TxAt w A n ws) (hb : Below w.heap.size w w') : TxAt w' A n ws := (Reads.below h hb).more hb.size
theorem TxAt.at_ {w : World} {A : Option Addr} {n : Nat} {ws : List (List UInt8)} (h : TxAt w A n ws) (hn : 0 < n) :
    ∃ b off, A = some ⟨b, off, none⟩ ∧ b < w.heap.size ∧ ∀ k, k < n → w.cell? ⟨b, off + k, none⟩ = some (.string (str (ws.getD k []))) := by
  obtain ⟨ad, e, hb, hc⟩ := h.2 hn
  obtain ⟨b, off, spot⟩ := ad
  have hspot : spot = none := by
    have g0 := hc _ _ (sc_at ws 0 (by rw [h.len]; omega))
    exact World.cell?_spot g0
  subst hspot
  have ha : ∀ j, Addr.add ⟨b, off, none⟩ j = ⟨b, off + j, none⟩ := fun j => by unfold Addr.add; split <;> simp_all
  refine ⟨b, off, e, hb, fun k hk => ?_⟩
  have g := hc _ _ (sc_at ws k (by rw [h.len]; omega))
  rw [ha] at g
  exact g
theorem str_inj {a b : List UInt8} (h : str a = str b) : a = b := by
  have := congrArg toL h
  rwa [toL_str, toL_str] at this
theorem take_next (ws : List (List UInt8)) (k : Nat) (h : k < ws.length) : ws.take (k + 1) = ws.take k ++ [ws.getD k []] := by
  rw [List.take_add_one, List.getElem?_eq_getElem h, Option.toList_some, List.getD_eq_getElem?_getD, List.getElem?_eq_getElem h, Option.getD_some]

end Go.Proofs.YtdgbpmbknlhgmaaGreatDoor
set_option linter.unusedVariables false
set_option linter.unusedSimpArgs false
namespace Go.Proofs.YtdgbpmbknlhgmaaGreatDoor
open Go.RowKit Qt

/-- what a line comes to. -/
def wdE (l : List UInt8) : Int := if (words l).isSome then 0 else 3
def wdL (l : List UInt8) : List (List UInt8) := (words l).getD []
theorem wd_none {l : List UInt8} (h : words l = none) : wdL l = [] ∧ wdE l = 3 := by unfold wdL wdE; rw [h]; exact ⟨rfl, rfl⟩
theorem wd_some {l : List UInt8} {x : List (List UInt8)} (h : words l = some x) : wdL l = x ∧ wdE l = 0 := by unfold wdL wdE; rw [h]; exact ⟨rfl, rfl⟩
theorem words_ne {l : List UInt8} (h : l ≠ []) : words l = wordsFrom l := by unfold words; rw [if_neg h]
theorem ret_words {v : Value} {b d : Int} (h2 : b = d) : Ending.returned (Value.tuple #[v, .int .i64 b]) = Ending.returned (Value.tuple #[v, .int .i64 d]) := by rw [h2]
theorem one_str (a : ByteArray) : ∀ u ∈ [Value.string a], u.oneCell' = true := by
  intro u hu; simp at hu; subst hu; rfl
theorem str_info : (Tryz.prog.info? 9).map (fun i => (i.zero, i.size, i.bytes)) = some (some (.string ByteArray.empty), 1, 16) := by kernel_rfl
theorem max_below {w w' : World} {m : Int} (hm : w.cell? ⟨5, 0, none⟩ = some (.int .i64 m)) (hb : Below w.heap.size w w') : w'.cell? ⟨5, 0, none⟩ = some (.int .i64 m) := by
  refine (hb.cell (p := ⟨5, 0, none⟩) ?_).trans hm
  rcases Nat.lt_or_ge 5 w.heap.size with h' | h'
  · exact h'
  · simp [World.cell?, Array.getElem?_eq_none h'] at hm
theorem own_cap {w : World} {base : Nat} {e : TypeId} {size n c : Nat} {A : Option Addr} {xs : List Value} (h : w.ownsRow base e size (.slice A n c) n xs) : n ≤ c := by
  rcases h.2 with ⟨h0, h1⟩ | ⟨g, cap, cur, hv, _, _, hc, _⟩
  · omega
  · injection hv with _ _ hv; omega
def strLen : Value → Nat
  | .string b => b.size
  | _ => 0

set_option maxHeartbeats 4000000 in
set_option maxRecDepth 100000 in
theorem words_calls (s : ByteArray) (m : Int) (w : World) (hs : s.size ≤ 1000000) (hT : Lib.Utf8Tabs 0 1 w) (hm : w.cell? ⟨5, 0, none⟩ = some (.int .i64 m)) :
    Calls Tryz.prog 53 #[.string s] w fun e w' => ∃ A n c, e = .returned (.tuple #[.slice A n c, .int .i64 (wdE (toL s))]) ∧ n ≤ c ∧ TxAt w' A n (wdL (toL s)) ∧ Below w.heap.size w w' := by
  have hem : s.toList = toL s := by rw [ByteArray.toList_eq]; rfl
  have hsz := toL_size s
  by_cases h0 : toL s = []
  · have hem0 : s.toList.isEmpty = true := by rw [hem, h0]; rfl
    have hq := Lib.hid (wd_some (l := toL s) (by rw [h0]; rfl))
    clear hem h0
    go_enter Tryz.func53, Tryz.ntmps53
    go_wp2
    go_ret2
    exact ⟨none, 0, 0, ret_words hq.out.2.symm, Nat.le_refl 0, by rw [hq.out.1]; exact Reads.none_, Below.refl _ _⟩
  have hem0 : s.toList.isEmpty = false := by rw [hem, List.isEmpty_eq_false_iff]; exact h0
  have hw0 := Lib.hid (words_ne h0)
  obtain ⟨i0, hi, hz0, hz1, hz2⟩ := info_parts str_info
  have hm' := Lib.hid hm
  have hs0 := str_toL s
  generalize toL s = L at *
  obtain rfl := hs0
  rw [str_size] at hs
  clear hsz hem h0 hm
  go_enter Tryz.func53, Tryz.ntmps53
  go_wp2
  go_loopw [4, 0] (fun o ln wr => ∃ (A : Option Addr) (n c : Nat) (acc : List (List UInt8)) (t : List UInt8), o = .slice A n c ∧ ln = .string (str t) ∧ acc.length = n ∧ n + t.length ≤ L.length ∧ Hid (wr.ownsRow w.heap.size 9 1 (.slice A n c) n (sc acc)) ∧ Hid (wordsFrom L = (wordsFrom t).map (acc ++ ·)) ∧ Hid (Below w.heap.size w wr)) (fun _ ln _ => strLen ln)
  case atStart =>
    refine ⟨none, 0, 0, [], L, rfl, rfl, rfl, by omega, World.ownsRow_nil _ _ _ _, ?_, Below.refl _ _⟩
    show _ = _
    cases wordsFrom L <;> rfl
  case round =>
    obtain ⟨A, n, c, acc, t, rfl, rfl, hn, hnt, hown, hwf, hbw⟩ := hrel
    have hwz : w.heap.size ≤ wr.heap.size := hbw.out.size
    have hts := str_size t
    have H := word_calls (str t) m wr (by omega) (Utf8Tabs_below hT hbw.out) (max_below hm'.out hbw.out)
    rw [toL_str] at H
    rcases hwd : word t with _ | x
    · have hq := Lib.hid (wd_none (l := L) (by rw [hw0.out, hwf.out, wf_none hwd]; rfl))
      rw [hwd] at H
      clear hwd hwf
      go_wp2_with (fail)
      refine H.mono ?_
      rintro e w1 ⟨q, rfl, -, hb1⟩
      go_wp2
      go_ret2
      exact ⟨none, 0, 0, ret_words hq.out.2.symm, Nat.le_refl 0, by rw [hq.out.1]; exact Reads.none_, hbw.out.trans (hb1.mono hwz)⟩
    · obtain ⟨hx, r, rfl⟩ := word_some hwd
      have hx0 : 0 < x.length := List.length_pos_iff.2 (isWord_ne hx)
      have hdr : (x ++ r).drop x.length = r := by simp
      have hcut : (str (x ++ r)).extract x.length (x ++ r).length = str r := by
        rw [cut_eq _ _ _ (by simp), toL_str, hdr, List.take_of_length_le (by simp)]
      have hxs := str_size x
      have hxr : (x ++ r).length = x.length + r.length := by simp
      have hrs := str_size r
      rw [hwd] at H
      have H : Calls Tryz.prog 96 #[.string (str (x ++ r))] wr fun e w' => e = .returned (.tuple #[.string (str x), .bool true]) ∧ Below wr.heap.size wr w' :=
        H.mono fun e w' ⟨q, h1, h2, h3⟩ => ⟨by rw [h1, h2 x rfl]; rfl, h3⟩
      have hfin : Hid (r = [] → wdL L = acc ++ [x] ∧ wdE L = 0) := by
        show _ → _
        intro hr
        subst hr
        exact wd_some (by rw [hw0.out, hwf.out, wf_one hwd hdr]; rfl)
      have hbad : Hid (∀ c t, r = c :: t → c ≠ 32 → wdL L = [] ∧ wdE L = 3) := by
        show ∀ _, _
        intro c t hr hc
        subst hr
        exact wd_none (by rw [hw0.out, hwf.out, wf_bad hwd hdr hc]; rfl)
      have hstep : Hid (∀ t, r = 32 :: t → wordsFrom L = (wordsFrom t).map ((acc ++ [x]) ++ ·)) := by
        show ∀ _, _
        intro t hr
        subst hr
        rw [hwf.out, wf_step hwd hdr]
        cases wordsFrom t <;> simp
      clear hwf hwd hx hdr
      generalize hst : str (x ++ r) = st at *
      rw [hxr] at hnt hts hcut
      clear hst hxr
      have hem : r = [] ∨ ∃ c t, r = c :: t ∧ (str r).toList.isEmpty = false ∧ (∀ h : 0 < (str r).size, (str r)[0]'h = c) ∧ ((c.toNat : Int) == 32) = decide (c = 32) ∧ (str r).extract 1 r.length = str t := by
        cases r with
        | nil => exact .inl rfl
        | cons c t =>
          refine .inr ⟨c, t, rfl, by rw [str_toList]; rfl, fun h => by rw [str_at]; rfl, u8_eq c 32 (by omega), ?_⟩
          rw [cut_eq _ _ _ (by simp), toL_str]
          simp
      go_wp2_with (fail)
      refine H.mono ?_
      rintro e w1 ⟨rfl, hb1⟩
      have own1 := own_below hown.out hb1
      have hbw1 := hbw.out.trans (hb1.mono hwz)
      have hz := hb1.size
      go_wp2_with (at_builtin; refine wpList_append_own _ rfl _ _ 83 rfl w.heap.size 9 i0 (.string ByteArray.empty) 1 16 Tryz.underlying83 hi hz0 hz1 hz2 rfl (by decide) _ _ _ rfl (own1.alloc _) ⟨w1.heap.size, 0, none⟩ 1 1 [.string (str x)] rfl rfl (new_cell _ _ _) (one_str _) (by unfold maxLen; omega) (by omega) (by simp; omega) ?_)
      intro v' w2 hown' hgrow _
      rw [← sc_snoc] at hown'
      have hb2 : Below w.heap.size w w2 := ((hbw1).alloc (by omega) _).grown hgrow (by simp; omega) (fun k hk => (own1.lt k hk).1)
      obtain ⟨A', c', rfl⟩ : ∃ A' c', v' = .slice A' (n + 1) c' := by
        rcases hown'.2 with ⟨_, h0⟩ | ⟨g, cap, cur, hv, _⟩
        · omega
        · exact ⟨_, _, hv⟩
      have hown2 := Lib.hid hown'
      clear hown' hgrow H
      rcases hem with hr | ⟨c0, t, hr, he, hat, hc, hcut2⟩
      · have hq := Lib.hid (hfin.out hr)
        have he : (str r).toList.isEmpty = true := by rw [hr, str_toList]; rfl
        clear hr
        go_wp2
        go_ret2
        exact ⟨A', n + 1, c', ret_words hq.out.2.symm, own_cap hown2.out, by rw [hq.out.1]; exact Reads.of_own hown2.out, hb2⟩
      · have hrl : t.length < r.length := by rw [hr]; exact Nat.lt_succ_self _
        by_cases h32 : c0 = 32
        · subst h32
          have hs2 := Lib.hid (hstep.out t hr)
          have hts2 := str_size t
          rw [decide_eq_true rfl] at hc
          clear hr
          go_wp2
          go_roundw
          case rel => exact ⟨A', n + 1, c', acc ++ [x], t, rfl, rfl, by rw [List.length_append]; simp; omega, by omega, hown2, hs2, hb2⟩
          case measure => simp only [strLen]; omega
        · have hq := Lib.hid (hbad.out c0 t hr h32)
          rw [decide_eq_false h32] at hc
          clear hr
          go_wp2
          go_ret2
          exact ⟨none, 0, 0, ret_words hq.out.2.symm, Nat.le_refl 0, by rw [hq.out.1]; exact Reads.none_, hb2⟩

set_option maxHeartbeats 2000000 in
theorem line_calls (A : Option Addr) (n c : Nat) (ws : List (List UInt8)) (w : World) (hn : n ≤ c) (hl : (Lib.join ws [32]).length ≤ 1000000) (hn2 : n ≤ 1000000) (h : TxAt w A n ws) :
    Calls Tryz.prog 59 #[.slice A n c] w fun e w' => e = .returned (.string (str (Lib.join ws [32]))) ∧ Below w.heap.size w w' := by
  have hlen := h.len
  have H : Calls Tryz.prog 105 #[.slice A n c, .string ⟨#[32]⟩] w fun e w' => e = .returned (.string (str (Lib.join ws [32]))) ∧ Below w.heap.size w w' := by
    by_cases h0 : n = 0
    · subst h0
      have : ws = [] := List.eq_nil_of_length_eq_zero hlen
      subst this
      refine (Tryz.strings_Join_none A c ⟨#[32]⟩ w).mono ?_
      rintro e w' ⟨rfl, rfl⟩
      exact ⟨rfl, Below.refl _ _⟩
    · obtain ⟨b, off, rfl, hb, hc⟩ := h.at_ (by omega)
      have e1 : (ws.map str).map (·.data.toList) = ws := by
        rw [List.map_map]
        exact (List.map_congr_left (fun x _ => toL_str x)).trans (List.map_id _)
      have e2 : (⟨#[32]⟩ : ByteArray).data.toList = [32] := rfl
      have e3 : (ws.map str).length = n := by rw [List.length_map]; exact hlen
      have := Tryz.strings_Join b off c (ws.map str) ⟨#[32]⟩ w (fun j x hx => by
        rw [List.getElem?_map] at hx
        obtain ⟨y, hy, rfl⟩ := Option.map_eq_some_iff.1 hx
        have hj : j < ws.length := (List.getElem?_eq_some_iff.1 hy).1
        rw [hc j (by omega), List.getD_eq_getElem?_getD, hy]; rfl) hb (by omega) (by omega) (by rw [e1, e2]; omega)
      rw [e1, e2, e3] at this
      exact this
  have H' := Lib.hid H
  clear H h
  go_enter Tryz.func59, Tryz.ntmps59
  go_wp2_with (fail)
  refine H'.out.mono ?_
  rintro e w1 ⟨rfl, hb1⟩
  go_wp2
  go_ret
  exact ⟨rfl, hb1⟩
end Go.Proofs.YtdgbpmbknlhgmaaGreatDoor
