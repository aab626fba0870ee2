/-
Plain lists of bytes: the words of a line. No program in sight.
-/
import Derived.Test.YtdgbpmbknlhgmaaDoorQuoteMath
import Derived.Lib.Join
set_option linter.unusedVariables false
set_option linter.unusedSimpArgs false
namespace Go.Proofs.YtdgbpmbknlhgmaaDoor.Qt

/-- where the text in quotes ends whose opening quote lies just ahead. -/
def qend (l : List UInt8) : Option Nat :=
  match l with
  | [] => none
  | c :: t => if c = 34 then some 1 else if c = 92 then (if t = [] then none else (qend (t.drop 1)).map (· + 2)) else (qend t).map (· + 1)
termination_by l.length
decreasing_by
  · simp; omega
  · simp
theorem qend_nil : qend [] = none := by rw [qend]
theorem qend_q (t : List UInt8) : qend (34 :: t) = some 1 := by rw [qend, if_pos rfl]
theorem qend_esc (x : UInt8) (t : List UInt8) : qend (92 :: x :: t) = (qend t).map (· + 2) := by
  rw [qend, if_neg (by decide), if_pos rfl, if_neg (List.cons_ne_nil _ _)]; rfl
theorem qend_esc0 : qend [92] = none := by rw [qend, if_neg (by decide), if_pos rfl, if_pos rfl]
theorem qend_plain (c : UInt8) (t : List UInt8) (h : c ≠ 34) (h2 : c ≠ 92) : qend (c :: t) = (qend t).map (· + 1) := by rw [qend, if_neg h, if_neg h2]
theorem qend_app (p : List UInt8) : (∀ x ∈ p, x ≠ 34 ∧ x ≠ 92) → ∀ t, qend (p ++ t) = (qend t).map (· + p.length) := by
  induction p with
  | nil => intro _ t; rw [List.nil_append]; cases qend t <;> rfl
  | cons a p ih =>
    intro h t
    have ha := h a (by simp)
    rw [List.cons_append, qend_plain _ _ ha.1 ha.2, ih (fun x hx => h x (by simp [hx]))]
    cases qend t <;> simp [Nat.add_assoc]
theorem hx_ne (d : Nat) (h : d < 16) : hx d ≠ 34 ∧ hx d ≠ 92 := by
  have : ∀ d, d < 16 → hx d ≠ 34 ∧ hx d ≠ 92 := by decide
  exact this d h
theorem qend_body : ∀ (m : Nat) (l : List UInt8), l.length ≤ m → ∀ t, qend (body l ++ t) = (qend t).map (· + (body l).length) := by
  intro m
  induction m with
  | zero =>
    intro l h t
    obtain rfl : l = [] := List.eq_nil_of_length_eq_zero (by omega)
    rw [body_nil, List.nil_append]; cases qend t <;> rfl
  | succ m ih =>
    intro l h t
    by_cases hl : l = []
    · rw [hl, body_nil, List.nil_append]; cases qend t <;> rfl
    · have hp := dec_pos l hl
      have hd := ih (l.drop (dec l).2) (by rw [List.length_drop]; omega) t
      rw [body_step l hl, List.append_assoc]
      rcases piece_cases l hl with ⟨h1, h2, h3⟩ | ⟨h1, h2⟩ | ⟨h1, h2⟩
      · rw [h3]
        show qend (92 :: b0 l :: (body (l.drop (dec l).2) ++ t)) = _
        rw [qend_esc, hd]
        cases qend t
        · rfl
        · simp; omega
      · rw [h2]
        have hb := (b0 l).toNat_lt
        show qend (92 :: 120 :: ([hx ((b0 l).toNat / 16), hx ((b0 l).toNat % 16)] ++ (body (l.drop (dec l).2) ++ t))) = _
        rw [qend_esc, qend_app _ (by
          intro x hx
          simp only [List.mem_cons, List.not_mem_nil, or_false] at hx
          rcases hx with rfl | rfl
          · exact hx_ne _ (by omega)
          · exact hx_ne _ (by omega)), hd]
        cases qend t
        · rfl
        · simp [esc]; omega
      · rw [h1, qend_app _ (fun x hx => ⟨(h2 x hx).1, (h2 x hx).2.1⟩), hd]
        cases qend t
        · rfl
        · simp; omega
/-- how long the text in quotes is with which a line begins; 0: it does not end. -/
def quotedN (l : List UInt8) : Nat := match qend (l.drop 1) with | some k => k + 1 | none => 0
theorem quoted_quote (x t : List UInt8) : quotedN (quote x ++ t) = (quote x).length := by
  unfold quotedN
  rw [show (quote x ++ t).drop 1 = body x ++ 34 :: t by simp [quote], qend_body x.length x (Nat.le_refl _), qend_q]
  simp [quote]; omega

/-! ### words -/
/-- the document's word. -/
def isWord (l : List UInt8) : Bool := if l = [] then false else if b0 l = 34 then (unquote l).isSome else l.all fun c => decide (32 < c.toNat)
def head (l : List UInt8) : List UInt8 := l.takeWhile fun c => c != 32
/-- the word with which a line begins. -/
def word (l : List UInt8) : Option (List UInt8) :=
  if l ≠ [] ∧ b0 l = 34 then (if (unquote (l.take (quotedN l))).isSome then some (l.take (quotedN l)) else none)
  else if (head l).any fun c => decide (c.toNat < 32) then none
  else if head l = [] then none else some (head l)

theorem b0_app (w r : List UInt8) (h : w ≠ []) : b0 (w ++ r) = b0 w := by
  cases w with
  | nil => exact absurd rfl h
  | cons a w => rfl
theorem isWord_ne {w : List UInt8} (h : isWord w = true) : w ≠ [] := by
  rintro rfl; exact absurd h (by decide)
theorem head_app (w r : List UInt8) (h : ∀ c ∈ w, c ≠ 32) (hr : r = [] ∨ ∃ t, r = 32 :: t) : head (w ++ r) = w := by
  unfold head
  induction w with
  | nil => rcases hr with rfl | ⟨t, rfl⟩ <;> rfl
  | cons a w ih =>
    have ha : (a != 32) = true := by simpa using h a (by simp)
    rw [List.cons_append, List.takeWhile_cons, if_pos ha, ih (fun c hc => h c (by simp [hc]))]
theorem word_app (w r : List UInt8) (h : isWord w = true) (hr : r = [] ∨ ∃ t, r = 32 :: t) : word (w ++ r) = some w := by
  have hne := isWord_ne h
  unfold isWord at h
  rw [if_neg hne] at h
  unfold word
  rw [b0_app _ _ hne]
  have hne2 : w ++ r ≠ [] := by simp [hne]
  by_cases hq : b0 w = 34
  · rw [if_pos hq] at h
    obtain ⟨x, hx⟩ := Option.isSome_iff_exists.1 h
    obtain rfl := unquote_some hx
    rw [if_pos ⟨hne2, hq⟩, quoted_quote, List.take_left', if_pos (by rw [unquote_quote]; rfl)]
    rfl
  · rw [if_neg hq, List.all_eq_true] at h
    have h32 : ∀ c ∈ w, 32 < c.toNat := fun c hc => by simpa using h c hc
    rw [if_neg (fun k => hq k.2), head_app w r (fun c hc e => by have := h32 c hc; rw [e] at this; exact absurd this (by decide)) hr, if_neg (by
      rw [Bool.not_eq_true, List.any_eq_false]
      intro c hc; have := h32 c hc; simp; omega), if_neg hne]
theorem takeWhile_all (p : UInt8 → Bool) : ∀ (l : List UInt8), ∀ c ∈ l.takeWhile p, p c = true
  | [], c, h => by cases h
  | a :: l, c, h => by
    rw [List.takeWhile_cons] at h
    split at h
    · rcases List.mem_cons.1 h with rfl | h
      · assumption
      · exact takeWhile_all p l c h
    · cases h
theorem word_some {l w : List UInt8} (h : word l = some w) : isWord w = true ∧ ∃ r, l = w ++ r := by
  unfold word at h
  by_cases hq : l ≠ [] ∧ b0 l = 34
  · rw [if_pos hq] at h
    split at h
    · rename_i hs
      cases h
      refine ⟨?_, _, (List.take_append_drop _ _).symm⟩
      obtain ⟨x, hx⟩ := Option.isSome_iff_exists.1 hs
      unfold isWord
      have he := unquote_some hx
      rw [if_neg (by rw [he]; simp [quote]), if_pos (by rw [he]; rfl), hs]
    · cases h
  · rw [if_neg hq] at h
    split at h
    · cases h
    · rename_i ha
      split at h
      · cases h
      · rename_i hn
        cases h
        refine ⟨?_, _, (List.takeWhile_append_dropWhile (p := fun c => c != 32) (l := l)).symm⟩
        unfold isWord
        have hl : l = head l ++ l.dropWhile (fun c => c != 32) := (List.takeWhile_append_dropWhile (p := fun c => c != 32) (l := l)).symm
        have hb : b0 (head l) = b0 l := by
          have := b0_app (head l) (l.dropWhile (fun c => c != 32)) hn
          rw [← hl] at this; exact this.symm
        have hln : l ≠ [] := by rintro rfl; exact hn rfl
        rw [if_neg hn, hb, if_neg (fun e => hq ⟨hln, e⟩), List.all_eq_true]
        intro c hc
        rw [Bool.not_eq_true, List.any_eq_false] at ha
        have h1 := ha c hc
        have h2 : (c != 32) = true := takeWhile_all (fun c => c != 32) l c hc
        have h3 : c.toNat ≠ 32 := fun e => by
          have : c = 32 := UInt8.toNat_inj.1 e
          rw [this] at h2; exact absurd h2 (by decide)
        simp at h1 ⊢; omega
/-- the words of a line that is not empty. -/
def wordsFrom (l : List UInt8) : Option (List (List UInt8)) :=
  match word l with
  | none => none
  | some w =>
    match h : l.drop w.length with
    | [] => some [w]
    | c :: t => if c = 32 then (wordsFrom t).map (w :: ·) else none
termination_by l.length
decreasing_by
  have := congrArg List.length h
  rw [List.length_drop] at this
  simp at this; omega
theorem wf_none {l : List UInt8} (h : word l = none) : wordsFrom l = none := by rw [wordsFrom, h]
theorem wf_one {l w : List UInt8} (h : word l = some w) (h2 : l.drop w.length = []) : wordsFrom l = some [w] := by
  rw [wordsFrom, h]; simp only
  split
  · rfl
  · rename_i h3; rw [h2] at h3; cases h3
theorem wf_step {l w t : List UInt8} (h : word l = some w) (h2 : l.drop w.length = 32 :: t) : wordsFrom l = (wordsFrom t).map (w :: ·) := by
  rw [wordsFrom, h]; simp only
  split
  · rename_i h3; rw [h2] at h3; cases h3
  · rename_i c t' h3; rw [h2] at h3; cases h3; exact if_pos rfl
theorem wf_bad {l w t : List UInt8} {c : UInt8} (h : word l = some w) (h2 : l.drop w.length = c :: t) (hc : c ≠ 32) : wordsFrom l = none := by
  rw [wordsFrom, h]; simp only
  split
  · rename_i h3; rw [h2] at h3; cases h3
  · rename_i c' t' h3; rw [h2] at h3; cases h3; exact if_neg hc
def words (l : List UInt8) : Option (List (List UInt8)) := if l = [] then some [] else wordsFrom l
theorem join_two (x y : List UInt8) (r : List (List UInt8)) : Lib.join (x :: y :: r) [32] = x ++ 32 :: Lib.join (y :: r) [32] := by
  rw [Lib.join_cons, Lib.join_cons]
  simp [Lib.joinTail]
theorem wordsFrom_join : ∀ (r : List (List UInt8)) (x : List UInt8), isWord x = true → (∀ y ∈ r, isWord y = true) → wordsFrom (Lib.join (x :: r) [32]) = some (x :: r) := by
  intro r
  induction r with
  | nil =>
    intro x hx _
    rw [Lib.join_one]
    have := word_app x [] hx (.inl rfl)
    rw [List.append_nil] at this
    exact wf_one this (by simp)
  | cons y r ih =>
    intro x hx hr
    rw [join_two]
    have := word_app x (32 :: Lib.join (y :: r) [32]) hx (.inr ⟨_, rfl⟩)
    rw [wf_step this (t := Lib.join (y :: r) [32]) (by simp), ih y (hr y (by simp)) (fun z hz => hr z (by simp [hz]))]
    rfl
theorem words_join (l : List (List UInt8)) (h : ∀ x ∈ l, isWord x = true) : words (Lib.join l [32]) = some l := by
  cases l with
  | nil => rfl
  | cons x r =>
    have hx := isWord_ne (h x (by simp))
    have hn : Lib.join (x :: r) [32] ≠ [] := by
      rw [Lib.join_cons]; simp [hx]
    unfold words
    rw [if_neg hn]
    exact wordsFrom_join r x (h x (by simp)) (fun y hy => h y (by simp [hy]))
theorem wordsFrom_some : ∀ (m : Nat) (l : List UInt8) (ws : List (List UInt8)), l.length ≤ m → wordsFrom l = some ws → (∀ x ∈ ws, isWord x = true) ∧ Lib.join ws [32] = l ∧ ws ≠ [] := by
  intro m
  induction m with
  | zero =>
    intro l ws h hw
    obtain rfl : l = [] := List.eq_nil_of_length_eq_zero (by omega)
    rw [wf_none (by rfl)] at hw; cases hw
  | succ m ih =>
    intro l ws h hw
    rcases he : word l with _ | w
    · rw [wf_none he] at hw; cases hw
    · obtain ⟨h1, r, rfl⟩ := word_some he
      have hd : (w ++ r).drop w.length = r := by simp
      cases r with
      | nil =>
        rw [wf_one he hd] at hw; cases hw
        refine ⟨by simpa using h1, by rw [Lib.join_one]; simp, by simp⟩
      | cons c t =>
        by_cases hc : c = 32
        · subst hc
          rw [wf_step he hd] at hw
          rcases ht : wordsFrom t with _ | ws'
          · rw [ht] at hw; cases hw
          · rw [ht] at hw; cases hw
            obtain ⟨i1, i2, i3⟩ := ih t ws' (by simp at h; omega) ht
            refine ⟨fun x hx => ?_, ?_, by simp⟩
            · rcases List.mem_cons.1 hx with rfl | hx
              · exact h1
              · exact i1 x hx
            · cases ws' with
              | nil => exact absurd rfl i3
              | cons y ws' => rw [join_two, i2]
        · rw [wf_bad he hd hc] at hw; cases hw
theorem words_some {l : List UInt8} {ws : List (List UInt8)} (h : words l = some ws) : (∀ x ∈ ws, isWord x = true) ∧ Lib.join ws [32] = l := by
  unfold words at h
  split at h
  · rename_i hl; cases h; subst hl; exact ⟨by simp, rfl⟩
  · have := wordsFrom_some l.length l ws (Nat.le_refl _) h; exact ⟨this.1, this.2.1⟩
end Go.Proofs.YtdgbpmbknlhgmaaDoor.Qt
