/-
What words are read as a command, in plain words: a command's text leads back to it.
-/
import Derived.Test.YtdgbpmbknlhgmaaGreatDoorCmdP
import Derived.Test.YtdgbpmbknlhgmaaGreatDoorCmdN
set_option linter.unusedVariables false
set_option linter.unusedSimpArgs false
namespace Go.Proofs.YtdgbpmbknlhgmaaGreatDoor
open Go.RowKit Qt Vm

/-- the last kind up to k that has this word; 0: none. -/
def kindTo (t : List UInt8) : Nat → Nat
  | 0 => 0
  | k + 1 => if nameN (k + 1) = t then k + 1 else kindTo t k
/-- the fields that are read off words, so far, and the words that are left. -/
def fillTo (kd : Int) (ws : List (List UInt8)) : Nat → CX × List (List UInt8)
  | 0 => (⟨kd, 0, 0, [], [], [], 0⟩, ws)
  | k + 1 => if hasB kd k = true ∧ (fillTo kd ws k).2 ≠ [] then ((fillTo kd ws k).1.fill k ((fillTo kd ws k).2.headD []), (fillTo kd ws k).2.tail) else fillTo kd ws k
def readC (ws : List (List UInt8)) : CX := (fillTo (kindTo (ws.headD []) 8 : Nat) ws.tail 6).1
/-- the command of a text. -/
def parseC (l : List UInt8) : Option CX := if wdE l = 0 ∧ wdL l ≠ [] ∧ cmdE (readC (wdL l)) = 0 ∧ cmdT (readC (wdL l)) = l then some (readC (wdL l)) else none
theorem kindTo_le (t : List UInt8) : ∀ k, kindTo t k ≤ k
  | 0 => Nat.le_refl _
  | k + 1 => by
    rw [kindTo]
    split
    · exact Nat.le_refl _
    · exact Nat.le_succ_of_le (kindTo_le t k)
theorem kindTo_name (k : Nat) (h : 1 ≤ k ∧ k ≤ 8) : kindTo (nameN k) 8 = k := by
  match k, h with
  | 1, _ | 2, _ | 3, _ | 4, _ | 5, _ | 6, _ | 7, _ | 8, _ => decide
theorem fill_kind (x : CX) (i : Nat) (t : List UInt8) : (x.fill i t).kind = x.kind := by
  match i with
  | 0 | 1 | 2 | 3 | 4 => rfl
  | i + 5 => rfl
theorem fillTo_kind (kd : Int) (ws : List (List UInt8)) : ∀ k, (fillTo kd ws k).1.kind = kd
  | 0 => rfl
  | k + 1 => by
    rw [fillTo]
    split
    · rw [fill_kind]; exact fillTo_kind kd ws k
    · exact fillTo_kind kd ws k
theorem fill_within {x : CX} {n : Nat} (h : x.within n) (i : Nat) {t : List UInt8} (ht : t.length ≤ n) : (x.fill i t).within n := by
  obtain ⟨h1, h2, h3⟩ := h
  have hu := Nat.le_trans (uqT_len t) ht
  match i with
  | 0 | 1 => exact ⟨h1, h2, h3⟩
  | 2 => exact ⟨hu, h2, h3⟩
  | 3 => exact ⟨h1, h2, hu⟩
  | 4 => exact ⟨h1, hu, h3⟩
  | i + 5 => exact ⟨h1, h2, h3⟩
theorem fillTo_within (kd : Int) (ws : List (List UInt8)) (n : Nat) (h : ∀ t ∈ ws, t.length ≤ n) : ∀ k, (fillTo kd ws k).1.within n ∧ ∀ t ∈ (fillTo kd ws k).2, t.length ≤ n
  | 0 => ⟨⟨Nat.zero_le _, Nat.zero_le _, Nat.zero_le _⟩, h⟩
  | k + 1 => by
    obtain ⟨h1, h2⟩ := fillTo_within kd ws n h k
    rw [fillTo]
    split
    · rename_i hc
      have hne := hc.2
      generalize fillTo kd ws k = s at *
      obtain ⟨y, rs⟩ := s
      cases rs with
      | nil => exact absurd rfl hne
      | cons a r => exact ⟨fill_within h1 _ (h2 a (List.mem_cons_self ..)), fun t ht => h2 t (List.mem_cons_of_mem _ ht)⟩
    · exact ⟨h1, h2⟩
theorem readC_within {l : List UInt8} (h : wdE l = 0) : (readC (wdL l)).within l.length := by
  obtain ⟨hj, _⟩ := wdL_join h
  refine (fillTo_within _ _ _ (fun t ht => ?_) 6).1
  have := join_mem (wdL l) t (List.mem_of_mem_tail ht)
  rwa [hj] at this

/-! ### a command's text -/
theorem cmdW_split (x : CX) (k : Nat) : ∀ j, ∃ t, cmdW x (k + j) = cmdW x k ++ t
  | 0 => ⟨[], by simp⟩
  | j + 1 => by
    obtain ⟨t, h⟩ := cmdW_split x k j
    rw [show k + (j + 1) = k + j + 1 by omega, cmdW]
    split
    · exact ⟨t ++ [pW x (k + j)], by rw [h, List.append_assoc]⟩
    · exact ⟨t, h⟩
theorem cmdW_drop (x : CX) (k : Nat) (hk : k ≤ 6) : ∃ t, (cmdW x 6).drop (cmdW x k).length = t ∧ cmdW x 6 = cmdW x k ++ t := by
  obtain ⟨t, h⟩ := cmdW_split x k (6 - k)
  rw [show k + (6 - k) = 6 by omega] at h
  exact ⟨t, by rw [h, List.drop_left], h⟩
theorem nameN_word (k : Nat) (h : 1 ≤ k ∧ k ≤ 8) : isWord (nameN k) = true := by
  match k, h with
  | 1, _ | 2, _ | 3, _ | 4, _ | 5, _ | 6, _ | 7, _ | 8, _ => decide
theorem pW_word (x : CX) (i : Nat) : isWord (pW x i) = true := by
  match i with
  | 0 | 1 => exact dd_word _
  | 2 | 3 | 4 => exact quote_word _
  | i + 5 => exact dd_word _
theorem cmdW_words {x : CX} (h : x.Ok) : ∀ k, ∀ t ∈ cmdW x k, isWord t = true
  | 0 => by
    intro t ht
    have hk := h.kind
    simp only [cmdW, List.mem_singleton] at ht
    subst ht
    exact nameN_word _ (by omega)
  | k + 1 => by
    intro t ht
    rw [cmdW] at ht
    split at ht
    · rcases List.mem_append.1 ht with h1 | h1
      · exact cmdW_words h k t h1
      · simp only [List.mem_singleton] at h1
        subst h1
        exact pW_word x k
    · exact cmdW_words h k t ht
theorem fill_pW {x y : CX} (h : x.Ok) (i : Nat) (hi : i < 6) : y.fill i (pW x i) = y.put i (numOf x i) (txtOf x i) := by
  have n1 := h.client.le (by omega)
  have n2 := h.seq.le (by omega)
  have n3 := h.node.le (by omega)
  have ha : ∀ n : Int, 0 ≤ n ∧ n ≤ 4294967296 → atoiZ (Lib.decDigits n.toNat) = ((n.toNat : Nat) : Int) := fun n hn => atoiZ_dd (by omega)
  have hu : ∀ l, uqT (quote l) = l := fun l => (uq_some (unquote_quote l)).1
  match i, hi with
  | 0, _ => simp only [CX.fill, CX.put, pW, numOf, ha x.client (by omega)]
  | 1, _ => simp only [CX.fill, CX.put, pW, numOf, ha x.seq (by omega)]
  | 2, _ => simp only [CX.fill, CX.put, pW, txtOf, hu]
  | 3, _ => simp only [CX.fill, CX.put, pW, txtOf, hu]
  | 4, _ => simp only [CX.fill, CX.put, pW, txtOf, hu]
  | 5, _ => simp only [CX.fill, CX.put, pW, numOf, ha x.node (by omega)]
theorem fillTo_of {x : CX} (h : x.Ok) : ∀ k, k ≤ 6 → fillTo x.kind (cmdW x 6).tail k = (keepX 2 x k, (cmdW x 6).drop (cmdW x k).length)
  | 0, _ => by
    rw [fillTo]
    show (_, _) = (_, (cmdW x 6).drop 1)
    rw [List.drop_one]
    rfl
  | k + 1, hk => by
    have ih := fillTo_of h k (by omega)
    rw [fillTo, ih, keepX]
    simp only
    by_cases hw : hasB x.kind k = true
    · obtain ⟨t, h1, h2⟩ := cmdW_drop x (k + 1) hk
      have e : cmdW x (k + 1) = cmdW x k ++ [pW x k] := by rw [cmdW, if_pos (show wantB k 2 x.kind = true from hw)]
      have hd : (cmdW x 6).drop (cmdW x k).length = pW x k :: t := by rw [h2, e, List.append_assoc, List.drop_left]; rfl
      have hl : (cmdW x 6).drop (cmdW x (k + 1)).length = t := h1
      rw [hd, if_pos ⟨hw, List.cons_ne_nil _ _⟩, if_pos (show wantB k 2 x.kind = true from hw), hl]
      show ((keepX 2 x k).fill k (pW x k), t) = _
      rw [fill_pW h k (by omega)]
    · rw [if_neg (fun hc => hw hc.1), if_neg (show ¬ wantB k 2 x.kind = true from hw)]
      have e : cmdW x (k + 1) = cmdW x k := by rw [cmdW, if_neg (show ¬ wantB k 2 x.kind = true from hw)]
      rw [e]
theorem wd_of {x : CX} (h : x.Ok) : wdE (cmdT x) = 0 ∧ wdL (cmdT x) = cmdW x 6 := by
  have hw := words_join (cmdW x 6) (cmdW_words h 6)
  obtain ⟨h1, h2⟩ := wd_some (l := cmdT x) hw
  exact ⟨h2, h1⟩
theorem cmdW_head (x : CX) : ∀ k, (cmdW x k).headD [] = nameN x.kind.toNat ∧ cmdW x k ≠ []
  | 0 => ⟨rfl, List.cons_ne_nil _ _⟩
  | k + 1 => by
    obtain ⟨h1, h2⟩ := cmdW_head x k
    rw [cmdW]
    split
    · cases hc : cmdW x k with
      | nil => exact absurd hc h2
      | cons a r => rw [hc] at h1; exact ⟨h1, List.cons_ne_nil _ _⟩
    · exact ⟨h1, h2⟩
theorem readC_of {x : CX} (h : x.Ok) : readC (cmdW x 6) = x := by
  have hk := h.kind
  unfold readC
  rw [(cmdW_head x 6).1, kindTo_name _ (by omega), Int.toNat_of_nonneg (by omega), fillTo_of h 6 (Nat.le_refl _)]
  refine keep_ok h (.inr rfl) ?_
  unfold vhasB
  rw [(kindOk_iff _).2 hk]
  simp
/-- a command's text leads back to it. -/
theorem parseC_text {x : CX} (h : cmdE x = 0) : parseC (cmdT x) = some x := by
  have hok := cmd_ok h
  obtain ⟨h1, h2⟩ := wd_of hok
  have hr := readC_of hok
  unfold parseC
  rw [h2, hr, if_pos ⟨h1, (cmdW_head x 6).2, h, rfl⟩]
theorem parseC_some {l : List UInt8} {x : CX} (h : parseC l = some x) : cmdE x = 0 ∧ cmdT x = l := by
  unfold parseC at h
  split at h
  · rename_i hc
    injection h with h
    rw [← h]
    exact ⟨hc.2.2.1, hc.2.2.2⟩
  · cases h
theorem parseC_nil : parseC [] = none := by
  unfold parseC
  rw [if_neg]
  intro h
  exact h.2.1 rfl
end Go.Proofs.YtdgbpmbknlhgmaaGreatDoor
