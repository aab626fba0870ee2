/-
The walk through quote.word.
-/
import Derived.Test.YtdgbpmbknlhgmaaDoorWords
import Derived.Lib.ConvBytes
set_option linter.unusedVariables false
set_option linter.unusedSimpArgs false
namespace Go.Proofs.YtdgbpmbknlhgmaaDoor
open Go.RowKit Qt

set_option maxRecDepth 100000 in
theorem to_bytes (w : World) (s : ByteArray) : ∃ cap W2, (convert 9 36 (.string s)).run Tryd.prog w = .ok (.slice (some ⟨w.heap.size, 0, none⟩) s.size cap) W2 ∧ Below w.heap.size w W2 ∧ w.heap.size < W2.heap.size ∧
    ∀ j, j < s.size → W2.cell? ⟨w.heap.size, j, none⟩ = some (.int .u8 (((toL s).getD j 0).toNat : Int)) := by
  refine ⟨_, _, Lib.run_convert_string_bytes (P := Tryd.prog) w 9 36 5 s Tryd.underlying9 Tryd.underlying36 Tryd.underlying5, ⟨rfl, rfl, rfl, ?_, fun k hk => Lib.bytesWorld_at_old w _ s k hk⟩, ?_, fun j hj => Lib.bytesWorld_cell w _ s j hj⟩
  · rw [Lib.bytesWorld_size]; omega
  · rw [Lib.bytesWorld_size]; omega

theorem cut_calls (s : ByteArray) (m : Int) (w : World) (hs : s.size ≤ 1000000) (hm : w.cell? ⟨4, 0, none⟩ = some (.int .i64 m)) :
    Calls Tryd.prog 89 #[.string s, .string ⟨#[32]⟩] w fun e w' => ∃ a b, e = .returned (.tuple #[.string (str (head (toL s))), a, b]) ∧ Below w.heap.size w w' := by
  refine (Tryd.strings_Cut s ⟨#[32]⟩ m w (by omega) hm).mono ?_
  rintro e w' ⟨rfl, n, rfl⟩
  have e1 : (⟨(Lib.cut s.data.toList (⟨#[32]⟩ : ByteArray).data.toList).1.toArray⟩ : ByteArray) = str (head (toL s)) := by rw [← cut_head (toL s)]; rfl
  rw [e1]
  exact ⟨_, _, rfl, below_drewN (Below.refl _ _) n⟩

theorem word_quoted {l : List UInt8} (h : l ≠ []) (h34 : b0 l = 34) : word l = if (unquote (l.take (quotedN l))).isSome then some (l.take (quotedN l)) else none := by
  unfold word; rw [if_pos ⟨h, h34⟩]
theorem word_plain {l : List UInt8} (h : l = [] ∨ b0 l ≠ 34) : word l = if (head l).any (fun c => decide (c.toNat < 32)) then none else if head l = [] then none else some (head l) := by
  unfold word; rw [if_neg (fun k => h.elim k.1 (fun h => h k.2))]
theorem quotedN_le (l : List UInt8) : quotedN l ≤ l.length := by
  have hq : ∀ (m : Nat) (l : List UInt8), l.length ≤ m → ∀ k, qend l = some k → k ≤ l.length := by
    intro m
    induction m with
    | zero =>
      intro l h k hk
      obtain rfl : l = [] := List.eq_nil_of_length_eq_zero (by omega)
      rw [qend_nil] at hk; cases hk
    | succ m ih =>
      intro l h k hk
      match l, h, hk with
      | [], h, hk => rw [qend_nil] at hk; cases hk
      | c :: t, h, hk =>
        by_cases h1 : c = 34
        · subst h1; rw [qend_q] at hk; cases hk; simp
        · by_cases h2 : c = 92
          · subst h2
            match t, h, hk with
            | [], h, hk => rw [qend_esc0] at hk; cases hk
            | x :: t, h, hk =>
              rw [qend_esc] at hk
              cases he : qend t with
              | none => rw [he] at hk; cases hk
              | some v => rw [he] at hk; cases hk; have := ih t (by simp at h; omega) v he; simp; omega
          · rw [qend_plain _ _ h1 h2] at hk
            cases he : qend t with
            | none => rw [he] at hk; cases hk
            | some v => rw [he] at hk; cases hk; have := ih t (by simp at h; omega) v he; simp; omega
  unfold quotedN
  split
  · rename_i k hk
    have := hq _ _ (Nat.le_refl _) k hk
    have hne : l ≠ [] := by rintro rfl; rw [show ([] : List UInt8).drop 1 = [] from rfl, qend_nil] at hk; cases hk
    have hl : 1 ≤ l.length := List.length_pos_iff.2 hne
    rw [List.length_drop] at this; omega
  · omega
theorem head_len (l : List UInt8) : (head l).length ≤ l.length := by
  unfold head; exact (List.takeWhile_sublist _).length_le

set_option maxHeartbeats 4000000 in
set_option maxRecDepth 100000 in
theorem word_calls (s : ByteArray) (m : Int) (w : World) (hs : s.size ≤ 1000000) (hT : Lib.Utf8Tabs 0 1 w) (hm : w.cell? ⟨4, 0, none⟩ = some (.int .i64 m)) :
    Calls Tryd.prog 52 #[.string s] w fun e w' => ∃ t, e = .returned (.tuple #[.string t, .bool (word (toL s)).isSome]) ∧ (∀ x, word (toL s) = some x → t = str x) ∧ Below w.heap.size w w' := by
  have hem : s.toList = toL s := by rw [ByteArray.toList_eq]; rfl
  have hsz := toL_size s
  by_cases hq : toL s ≠ [] ∧ b0 (toL s) = 34
  · have hne : ¬ s.toList = [] := by rw [hem]; exact hq.1
    have hpos : 0 < s.size := by rw [← hsz]; exact List.length_pos_iff.2 hq.1
    have hat : ∀ h : 0 < s.size, s[0]'h = 34 := fun h => by
      have := at_drop s 0 0 hpos
      rw [List.drop_zero] at this
      have h2 : s[0]'h = b0 (toL s) := this
      rw [h2, hq.2]
    have hw := word_quoted hq.1 hq.2
    have hql := quotedN_le (toL s)
    have hcut : s.extract 0 (quotedN (toL s)) = str ((toL s).take (quotedN (toL s))) := by
      rw [cut_eq _ _ _ (Nat.zero_le _)]; rfl
    have H1 := quoted_calls s w hs
    have H2 := unquote_calls (str ((toL s).take (quotedN (toL s)))) w (by rw [str_size, List.length_take]; omega) hT
    rw [toL_str] at H2
    have hE : Hid (decide (uqE ((toL s).take (quotedN (toL s))) = 0) = (word (toL s)).isSome) := by
      show _ = _
      rw [hw]; unfold uqE
      cases unquote ((toL s).take (quotedN (toL s))) <;> rfl
    have hE2 : Hid (∀ x, word (toL s) = some x → str ((toL s).take (quotedN (toL s))) = str x) := by
      show ∀ x, _
      intro x hx
      rw [hw] at hx
      split at hx
      · cases hx; rfl
      · cases hx
    clear hw hq hem
    generalize uqE ((toL s).take (quotedN (toL s))) = ue at *
    generalize uqT ((toL s).take (quotedN (toL s))) = ut at *
    generalize str ((toL s).take (quotedN (toL s))) = q at *
    generalize hn : quotedN (toL s) = n at *
    have hue : (ue == 0) = decide (ue = 0) := by
      by_cases h : ue = 0
      · subst h; rfl
      · rw [decide_eq_false h, beq_eq_false_iff_ne]; exact h
    have hne2 : (!s.toList.isEmpty) = true := by
      cases h : s.toList with
      | nil => exact absurd h hne
      | cons a t => rfl
    clear hne
    go_enter Tryd.func52, Tryd.ntmps52
    go_wp2_with (fail)
    refine H1.mono ?_
    rintro e w1 ⟨rfl, rfl⟩
    go_wp2_with (fail)
    refine H2.mono ?_
    rintro e w1 ⟨rfl, hb1⟩
    go_wp2
    go_ret2
    exact ⟨_, ret_is (by rw [← hE.out]), hE2.out, hb1⟩
  · have hq' : toL s = [] ∨ b0 (toL s) ≠ 34 := by
      by_cases h : toL s = []
      · exact .inl h
      · exact .inr fun e => hq ⟨h, e⟩
    have hw := word_plain hq'
    have H1 := cut_calls s m w hs hm
    have hhl := head_len (toL s)
    have hhs := str_size (head (toL s))
    have hhd : ∀ k, (head (toL s)).getD k 0 = (toL (str (head (toL s)))).getD k 0 := fun k => by rw [toL_str]
    have hcase : (!s.toList.isEmpty) = false ∨ ((!s.toList.isEmpty) = true ∧ ∃ x : UInt8, ((x.toNat : Int) == 34) = false ∧ ∃ h : 0 < s.size, s[0]'h = x) := by
      rw [hem]
      by_cases h0 : toL s = []
      · rw [h0]; exact .inl rfl
      · have hpos : 0 < s.size := by rw [← hsz]; exact List.length_pos_iff.2 h0
        have h34 := hq'.resolve_left h0
        refine .inr ⟨?_, b0 (toL s), ?_, hpos, ?_⟩
        · cases h : toL s with
          | nil => exact absurd h h0
          | cons a t => rfl
        · have : (((b0 (toL s)).toNat : Int) == 34) = decide (b0 (toL s) = 34) := u8_eq (b0 (toL s)) 34 (by omega)
          rw [decide_eq_false h34] at this; exact this
        · have := at_drop s 0 0 hpos
          rw [List.drop_zero] at this; exact this
    have hno : Hid ((head (toL s)).any (fun c => decide (c.toNat < 32)) = true → (word (toL s)).isSome = false ∧ ∀ x, word (toL s) = some x → False) := by
      show _ → _
      intro h
      rw [hw, if_pos h]; exact ⟨rfl, fun x h => by cases h⟩
    have hyes : Hid ((head (toL s)).any (fun c => decide (c.toNat < 32)) = false → (!(str (head (toL s))).toList.isEmpty) = (word (toL s)).isSome ∧ ∀ x, word (toL s) = some x → str (head (toL s)) = str x) := by
      show _ → _
      intro h
      rw [hw, if_neg (by rw [h]; exact Bool.false_ne_true), str_toList]
      by_cases hn : head (toL s) = []
      · rw [if_pos hn, hn]; exact ⟨rfl, fun x h => by cases h⟩
      · rw [if_neg hn]
        refine ⟨?_, fun x h => by cases h; rfl⟩
        cases h : head (toL s) with
        | nil => exact absurd h hn
        | cons a t => rfl
    clear hw hq hq' hem
    generalize hh : head (toL s) = hd at *
    rcases hcase with hne | ⟨hne, x, hx, hpos, hat⟩
    all_goals
      go_enter Tryd.func52, Tryd.ntmps52
      go_wp2_with (fail)
      refine H1.mono ?_
      rintro e w1 ⟨a, b, rfl, hb1⟩
      obtain ⟨cap, W2, hcv, hb2, hlt, hcells⟩ := to_bytes w1 (str hd)
      rw [hhs] at hcv hcells
      rw [toL_str] at hcells
      go_wp2
      go_loop [42] (fun i => ∃ k : Nat, i = .int .i64 (k : Int) ∧ k ≤ hd.length ∧ Hid (hd.any (fun c => decide (c.toNat < 32)) = (hd.drop k).any (fun c => decide (c.toNat < 32)))) (fun i => hd.length - (intOf i).toNat)
      case atStart => exact ⟨0, rfl, by omega, rfl⟩
      case round =>
        obtain ⟨k, rfl, hk, hq⟩ := hrel
        by_cases hlt2 : k < hd.length
        · have hc := hcells k hlt2
          have hdk : hd.drop k = hd.getD k 0 :: hd.drop (k + 1) := by
            rw [List.drop_eq_getElem_cons hlt2, List.getD_eq_getElem?_getD, List.getElem?_eq_getElem hlt2]; rfl
          rw [hdk, List.any_cons] at hq
          generalize hd.getD k 0 = y at *
          by_cases hy : y.toNat < 32
          · have hf := Lib.hid (hno.out (by rw [hq.out, decide_eq_true hy]; rfl))
            clear hq hcells hcv
            go_wp2
            go_ret2
            exact ⟨_, ret_is hf.out.1.symm, fun x hx => (hf.out.2 x hx).elim, hb1.trans (hb2.mono hb1.size)⟩
          · have hf : Hid (hd.any (fun c => decide (c.toNat < 32)) = (hd.drop (k + 1)).any (fun c => decide (c.toNat < 32))) := by
              show _ = _
              rw [hq.out, decide_eq_false hy]; rfl
            clear hq hcells hcv
            go_wp2
            go_round
            case rel => exact ⟨k + 1, by go_num, by omega, hf⟩
            case measure => simp [intOf]; omega
        · have hf := Lib.hid (hyes.out (by rw [hq.out, List.drop_eq_nil_of_le (by omega)]; rfl))
          clear hq hcells hcv
          go_wp2
          go_ret2
          exact ⟨_, ret_is hf.out.1, hf.out.2, hb1.trans (hb2.mono hb1.size)⟩
end Go.Proofs.YtdgbpmbknlhgmaaDoor
