/-
Plain lists of bytes: runes, quoted forms, what leads back from them, words of a line. No program in sight.
Plain lists of bytes: the words of a line. No program in sight.
-/
import Derived.Lib.DecodeN
import Derived.Lib.MapLaws
import Derived.Lib.Join
set_option linter.unusedVariables false
set_option linter.unusedSimpArgs false
namespace Go.Proofs.YtdgbpmbknlhgmaaGreatDoor.Qt

def b0 (l : List UInt8) : UInt8 := l.getD 0 0
/-- the rune with which a text begins, and its bytes' number: (65533, 1) where there is none. -/
def dec (l : List UInt8) : Nat × Nat := Lib.decodeN l.length (l.getD 0 0).toNat (l.getD 1 0).toNat (l.getD 2 0).toNat (l.getD 3 0).toNat
theorem get_drop (s : ByteArray) (p k : Nat) : s.get! (p + k) = (s.data.toList.drop p).getD k 0 := by
  rw [List.getD_eq_getElem?_getD, List.getElem?_drop, Array.getElem?_toList]
  show s.data[p + k]! = _
  rw [getElem!_def]
  cases s.data[p + k]? <;> rfl
theorem dec_at (s : ByteArray) (p : Nat) : Utf8.decode s p = dec (s.data.toList.drop p) := by
  rw [Lib.decode_at]
  unfold dec
  rw [← get_drop, ← get_drop, ← get_drop, ← get_drop, List.length_drop, Nat.add_zero]
  rfl

/-- how a text begins. -/
theorem dec_cases (l : List UInt8) (h : l ≠ []) :
    ((b0 l).toNat < 128 ∧ dec l = ((b0 l).toNat, 1)) ∨ (128 ≤ (b0 l).toNat ∧ dec l = (65533, 1)) ∨
    (∃ c n, dec l = (c, n) ∧ 2 ≤ n ∧ n ≤ 4 ∧ n ≤ l.length ∧ 128 ≤ c ∧ c ≤ 1114111 ∧ ∀ x ∈ l.take n, 128 ≤ x.toNat) := by
  have hs := Lib.decodeN_shape l.length (l.getD 0 0).toNat (l.getD 1 0).toNat (l.getD 2 0).toNat (l.getD 3 0).toNat
  have e0 : (l.getD 0 0).toNat < 256 := UInt8.toNat_lt _
  rcases hs with ⟨h1, h2⟩ | ⟨h1, h2, h3, h4, h5⟩ | ⟨h1, h2, h3, h4, h5, h6, h7⟩ | ⟨h1, h2, h3, h4, h5, h6, h7, h8⟩ | h1
  · exact .inl ⟨h1, h2⟩
  · refine .inr (.inr ⟨_, _, h5, by omega, by omega, by omega, h4, by omega, fun x hx => ?_⟩)
    rw [Lib.takeB l (by omega)] at hx
    simp only [List.mem_cons, List.not_mem_nil, or_false] at hx
    rcases hx with rfl | rfl <;> omega
  · refine .inr (.inr ⟨_, _, h7, by omega, by omega, by omega, by omega, by omega, fun x hx => ?_⟩)
    rw [Lib.takeC l (by omega)] at hx
    simp only [List.mem_cons, List.not_mem_nil, or_false] at hx
    rcases hx with rfl | rfl | rfl <;> omega
  · refine .inr (.inr ⟨_, _, h8, by omega, by omega, by omega, by omega, by omega, fun x hx => ?_⟩)
    rw [Lib.takeD l (by omega)] at hx
    simp only [List.mem_cons, List.not_mem_nil, or_false] at hx
    rcases hx with rfl | rfl | rfl | rfl <;> omega
  · by_cases hb : (b0 l).toNat < 128
    · refine .inl ⟨hb, ?_⟩
      unfold dec Lib.decodeN
      rw [if_pos (show (l.getD 0 0).toNat < 128 from hb)]; rfl
    · exact .inr (.inl ⟨by omega, h1⟩)
theorem dec_pos (l : List UInt8) (h : l ≠ []) : 1 ≤ (dec l).2 ∧ (dec l).2 ≤ l.length ∧ (dec l).2 ≤ 4 := by
  have hl : 1 ≤ l.length := List.length_pos_iff.2 h
  rcases dec_cases l h with ⟨_, e⟩ | ⟨_, e⟩ | ⟨c, n, e, h1, h2, h3, _⟩ <;> rw [e] <;> simp only <;> omega

/-! ### quoted forms -/
def hx (d : Nat) : UInt8 := if d < 10 then UInt8.ofNat (48 + d) else UInt8.ofNat (87 + d)
def esc (b : UInt8) : List UInt8 := [92, 120, hx (b.toNat / 16), hx (b.toNat % 16)]
/-- how a rune stands in quotes. -/
def piece (l : List UInt8) : List UInt8 :=
  if (dec l).1 = 34 ∨ (dec l).1 = 92 then 92 :: l.take (dec l).2
  else if (dec l).1 < 32 ∨ (dec l).1 = 127 ∨ ((dec l).1 = 65533 ∧ (dec l).2 = 1) then esc (b0 l)
  else l.take (dec l).2
def body (l : List UInt8) : List UInt8 := if h : l = [] then [] else piece l ++ body (l.drop (dec l).2)
termination_by l.length
decreasing_by
  have := dec_pos l h
  rw [List.length_drop]
  omega
theorem body_nil : body [] = [] := by rw [body, dif_pos rfl]
theorem body_step (l : List UInt8) (h : l ≠ []) : body l = piece l ++ body (l.drop (dec l).2) := by rw [body, dif_neg h]
def quote (l : List UInt8) : List UInt8 := 34 :: (body l ++ [34])

theorem hx_lt (d : Nat) (h : d < 16) : (48 ≤ (hx d).toNat ∧ (hx d).toNat ≤ 57 ∧ (hx d).toNat = 48 + d) ∨ (97 ≤ (hx d).toNat ∧ (hx d).toNat ≤ 102 ∧ (hx d).toNat = 87 + d) := by
  have : ∀ d, d < 16 → (48 ≤ (hx d).toNat ∧ (hx d).toNat ≤ 57 ∧ (hx d).toNat = 48 + d) ∨ (97 ≤ (hx d).toNat ∧ (hx d).toNat ≤ 102 ∧ (hx d).toNat = 87 + d) := by decide
  exact this d h
theorem take_one (l : List UInt8) (h : l ≠ []) : l.take 1 = [b0 l] := by
  cases l with
  | nil => exact absurd rfl h
  | cons a l => rfl
/-- the three forms of a piece. -/
theorem piece_cases (l : List UInt8) (h : l ≠ []) :
    ((dec l).2 = 1 ∧ (b0 l = 34 ∨ b0 l = 92) ∧ piece l = [92, b0 l]) ∨
    ((dec l).2 = 1 ∧ piece l = esc (b0 l)) ∨
    (piece l = l.take (dec l).2 ∧ ∀ x ∈ l.take (dec l).2, x ≠ 34 ∧ x ≠ 92 ∧ 32 ≤ x.toNat) := by
  unfold piece
  rcases dec_cases l h with ⟨h1, e⟩ | ⟨h1, e⟩ | ⟨c, n, e, h1, h2, h3, h4, h5, h6⟩
  · rw [e]
    simp only
    by_cases hq : (b0 l).toNat = 34 ∨ (b0 l).toNat = 92
    · refine .inl ⟨trivial, ?_, ?_⟩
      · rcases hq with hq | hq
        · exact .inl (UInt8.toNat_inj.1 hq)
        · exact .inr (UInt8.toNat_inj.1 hq)
      · rw [if_pos hq, take_one l h]
    · by_cases hc : (b0 l).toNat < 32 ∨ (b0 l).toNat = 127 ∨ ((b0 l).toNat = 65533 ∧ True)
      · exact .inr (.inl ⟨trivial, by rw [if_neg hq, if_pos hc]⟩)
      · refine .inr (.inr ⟨by rw [if_neg hq, if_neg hc], fun x hx => ?_⟩)
        rw [take_one l h, List.mem_singleton] at hx
        subst hx
        refine ⟨fun e => hq (.inl (by rw [e]; rfl)), fun e => hq (.inr (by rw [e]; rfl)), by omega⟩
  · rw [e]
    exact .inr (.inl ⟨rfl, by rw [if_neg (by omega), if_pos (.inr (.inr ⟨rfl, rfl⟩))]⟩)
  · rw [e]
    simp only
    refine .inr (.inr ⟨by rw [if_neg (by omega), if_neg (by omega)], fun x hx => ?_⟩)
    have := h6 x hx
    refine ⟨fun e => ?_, fun e => ?_, by omega⟩
    · rw [e] at this; exact absurd this (by decide)
    · rw [e] at this; exact absurd this (by decide)

/-! ### back from quotes -/
/-- a hexadecimal digit's number. -/
def val (c : UInt8) : Option Nat := if 48 ≤ c.toNat ∧ c.toNat ≤ 57 then some (c.toNat - 48) else if 97 ≤ c.toNat ∧ c.toNat ≤ 102 then some (c.toNat - 87) else none
theorem val_hx (d : Nat) (h : d < 16) : val (hx d) = some d := by
  have : ∀ d, d < 16 → val (hx d) = some d := by decide
  exact this d h
/-- the byte of an escape behind its backslash, and how long that is. -/
def unesc1 (l : List UInt8) : Option (UInt8 × Nat) :=
  match l with
  | [] => none
  | a :: t => if a = 34 ∨ a = 92 then some (a, 1) else
    match t with
    | p :: q :: _ => if a = 120 then
        match val p, val q with
        | some x, some y => some (UInt8.ofNat (16 * x + y), 3)
        | _, _ => none
      else none
    | _ => none
theorem unesc1_pos {l : List UInt8} {x : UInt8} {n : Nat} (h : unesc1 l = some (x, n)) : 1 ≤ n ∧ n ≤ l.length := by
  unfold unesc1 at h
  repeat' split at h
  all_goals first | (cases h; done) | (simp at h; obtain ⟨_, rfl⟩ := h; simp)
/-- the bytes of what stands between the quotes. -/
def unbody (l : List UInt8) : Option (List UInt8) :=
  match l with
  | [] => some []
  | c :: t => if c = 92 then
      match h : unesc1 t with
      | none => none
      | some (x, n) => (unbody (t.drop n)).map (x :: ·)
    else (unbody t).map (c :: ·)
termination_by l.length
decreasing_by
  · have := unesc1_pos h; simp; omega
  · simp
theorem unbody_nil : unbody [] = some [] := by rw [unbody]
theorem unbody_plain (c : UInt8) (t : List UInt8) (h : c ≠ 92) : unbody (c :: t) = (unbody t).map (c :: ·) := by rw [unbody, if_neg h]
theorem unbody_none (t : List UInt8) (h : unesc1 t = none) : unbody (92 :: t) = none := by
  rw [unbody, if_pos rfl]; split
  · rfl
  · rename_i h2; rw [h] at h2; cases h2
theorem unbody_esc (t : List UInt8) (x : UInt8) (n : Nat) (h : unesc1 t = some (x, n)) : unbody (92 :: t) = (unbody (t.drop n)).map (x :: ·) := by
  rw [unbody, if_pos rfl]; split
  · rename_i h2; rw [h] at h2; cases h2
  · rename_i x2 n2 h2; rw [h] at h2; cases h2; rfl
theorem unbody_app (p : List UInt8) : (∀ x ∈ p, x ≠ 92) → ∀ t, unbody (p ++ t) = (unbody t).map (p ++ ·) := by
  induction p with
  | nil => intro _ t; rw [List.nil_append]; cases unbody t <;> rfl
  | cons a p ih =>
    intro h t
    rw [List.cons_append, unbody_plain _ _ (h a (by simp)), ih (fun x hx => h x (by simp [hx]))]
    cases unbody t <;> rfl
/-- quotes lead back. -/
theorem unbody_body : ∀ (m : Nat) (l : List UInt8), l.length ≤ m → unbody (body l) = some l := by
  intro m
  induction m with
  | zero =>
    intro l h
    obtain rfl : l = [] := List.eq_nil_of_length_eq_zero (by omega)
    rw [body_nil, unbody_nil]
  | succ m ih =>
    intro l h
    by_cases hl : l = []
    · rw [hl, body_nil, unbody_nil]
    · have hp := dec_pos l hl
      have hd := ih (l.drop (dec l).2) (by rw [List.length_drop]; omega)
      rw [body_step l hl]
      rcases piece_cases l hl with ⟨h1, h2, h3⟩ | ⟨h1, h2⟩ | ⟨h1, h2⟩
      · rw [h3, h1]
        rw [h1] at hd
        have e : unesc1 (b0 l :: body (l.drop 1)) = some (b0 l, 1) := by simp only [unesc1]; rw [if_pos h2]
        rw [List.cons_append, List.cons_append, List.nil_append, unbody_esc _ _ _ e]
        show (unbody (body (l.drop 1))).map _ = _
        rw [hd]
        cases l with
        | nil => exact absurd rfl hl
        | cons a l => rfl
      · rw [h2, h1]
        rw [h1] at hd
        have hb := (b0 l).toNat_lt
        have e : unesc1 (120 :: hx ((b0 l).toNat / 16) :: hx ((b0 l).toNat % 16) :: body (l.drop 1)) = some (b0 l, 3) := by
          simp only [unesc1, val_hx _ (show (b0 l).toNat / 16 < 16 by omega), val_hx _ (show (b0 l).toNat % 16 < 16 by omega)]
          rw [if_neg (by decide), if_pos trivial, show 16 * ((b0 l).toNat / 16) + (b0 l).toNat % 16 = (b0 l).toNat by omega]
          simp
        show unbody (92 :: (120 :: hx ((b0 l).toNat / 16) :: hx ((b0 l).toNat % 16) :: body (l.drop 1))) = _
        rw [unbody_esc _ _ _ e]
        show (unbody (body (l.drop 1))).map _ = _
        rw [hd]
        cases l with
        | nil => exact absurd rfl hl
        | cons a l => rfl
      · rw [h1, unbody_app _ (fun x hx => (h2 x hx).2.1), hd]
        simp
theorem quote_ne (l : List UInt8) : 2 ≤ (quote l).length := by simp [quote]
/-- the text of one in quotes. -/
def inner (s : List UInt8) : List UInt8 := (s.drop 1).take (s.length - 2)
theorem inner_quote (l : List UInt8) : inner (quote l) = body l := by simp [inner, quote]
def unquote (s : List UInt8) : Option (List UInt8) :=
  match unbody (inner s) with
  | none => none
  | some x => if 2 ≤ s.length ∧ quote x = s then some x else none
theorem unquote_quote (l : List UInt8) : unquote (quote l) = some l := by
  unfold unquote
  rw [inner_quote, unbody_body l.length l (Nat.le_refl _)]
  exact if_pos ⟨quote_ne l, rfl⟩
theorem unquote_some {s x : List UInt8} (h : unquote s = some x) : s = quote x := by
  unfold unquote at h
  split at h
  · cases h
  · split at h
    · rename_i h2; cases h; exact h2.2.symm
    · cases h
end Go.Proofs.YtdgbpmbknlhgmaaGreatDoor.Qt
set_option linter.unusedVariables false
set_option linter.unusedSimpArgs false
namespace Go.Proofs.YtdgbpmbknlhgmaaGreatDoor.Qt

/-- where the text in quotes ends whose opening quote lies just ahead. -/
def qend (l : List UInt8) : Option Nat :=
  match l with
  | [] => none
  | c :: t => if c = 34 then some 1 else if c = 92 then (if t = [] then none else (qend (t.drop 1)).map (· + 2)) else (qend t).map (· + 1)
termination_by l.length
decreasing_by
  · simp; omega
  · simp
theorem qend_nil : qend [] = none := by rw [qend]
theorem qend_q (t : List UInt8) : qend (34 :: t) = some 1 := by rw [qend, if_pos rfl]
theorem qend_esc (x : UInt8) (t : List UInt8) : qend (92 :: x :: t) = (qend t).map (· + 2) := by
  rw [qend, if_neg (by decide), if_pos rfl, if_neg (List.cons_ne_nil _ _)]; rfl
theorem qend_esc0 : qend [92] = none := by rw [qend, if_neg (by decide), if_pos rfl, if_pos rfl]
theorem qend_plain (c : UInt8) (t : List UInt8) (h : c ≠ 34) (h2 : c ≠ 92) : qend (c :: t) = (qend t).map (· + 1) := by rw [qend, if_neg h, if_neg h2]
theorem qend_app (p : List UInt8) : (∀ x ∈ p, x ≠ 34 ∧ x ≠ 92) → ∀ t, qend (p ++ t) = (qend t).map (· + p.length) := by
  induction p with
  | nil => intro _ t; rw [List.nil_append]; cases qend t <;> rfl
  | cons a p ih =>
    intro h t
    have ha := h a (by simp)
    rw [List.cons_append, qend_plain _ _ ha.1 ha.2, ih (fun x hx => h x (by simp [hx]))]
    cases qend t <;> simp [Nat.add_assoc]
theorem hx_ne (d : Nat) (h : d < 16) : hx d ≠ 34 ∧ hx d ≠ 92 := by
  have : ∀ d, d < 16 → hx d ≠ 34 ∧ hx d ≠ 92 := by decide
  exact this d h
theorem qend_body : ∀ (m : Nat) (l : List UInt8), l.length ≤ m → ∀ t, qend (body l ++ t) = (qend t).map (· + (body l).length) := by
  intro m
  induction m with
  | zero =>
    intro l h t
    obtain rfl : l = [] := List.eq_nil_of_length_eq_zero (by omega)
    rw [body_nil, List.nil_append]; cases qend t <;> rfl
  | succ m ih =>
    intro l h t
    by_cases hl : l = []
    · rw [hl, body_nil, List.nil_append]; cases qend t <;> rfl
    · have hp := dec_pos l hl
      have hd := ih (l.drop (dec l).2) (by rw [List.length_drop]; omega) t
      rw [body_step l hl, List.append_assoc]
      rcases piece_cases l hl with ⟨h1, h2, h3⟩ | ⟨h1, h2⟩ | ⟨h1, h2⟩
      · rw [h3]
        show qend (92 :: b0 l :: (body (l.drop (dec l).2) ++ t)) = _
        rw [qend_esc, hd]
        cases qend t
        · rfl
        · simp; omega
      · rw [h2]
        have hb := (b0 l).toNat_lt
        show qend (92 :: 120 :: ([hx ((b0 l).toNat / 16), hx ((b0 l).toNat % 16)] ++ (body (l.drop (dec l).2) ++ t))) = _
        rw [qend_esc, qend_app _ (by
          intro x hx
          simp only [List.mem_cons, List.not_mem_nil, or_false] at hx
          rcases hx with rfl | rfl
          · exact hx_ne _ (by omega)
          · exact hx_ne _ (by omega)), hd]
        cases qend t
        · rfl
        · simp [esc]; omega
      · rw [h1, qend_app _ (fun x hx => ⟨(h2 x hx).1, (h2 x hx).2.1⟩), hd]
        cases qend t
        · rfl
        · simp; omega
/-- how long the text in quotes is with which a line begins; 0: it does not end. -/
def quotedN (l : List UInt8) : Nat := match qend (l.drop 1) with | some k => k + 1 | none => 0
theorem quoted_quote (x t : List UInt8) : quotedN (quote x ++ t) = (quote x).length := by
  unfold quotedN
  rw [show (quote x ++ t).drop 1 = body x ++ 34 :: t by simp [quote], qend_body x.length x (Nat.le_refl _), qend_q]
  simp [quote]; omega

/-! ### words -/
/-- the document's word. -/
def isWord (l : List UInt8) : Bool := if l = [] then false else if b0 l = 34 then (unquote l).isSome else l.all fun c => decide (32 < c.toNat)
def head (l : List UInt8) : List UInt8 := l.takeWhile fun c => c != 32
/-- the word with which a line begins. -/
def word (l : List UInt8) : Option (List UInt8) :=
  if l ≠ [] ∧ b0 l = 34 then (if (unquote (l.take (quotedN l))).isSome then some (l.take (quotedN l)) else none)
  else if (head l).any fun c => decide (c.toNat < 32) then none
  else if head l = [] then none else some (head l)

theorem b0_app (w r : List UInt8) (h : w ≠ []) : b0 (w ++ r) = b0 w := by
  cases w with
  | nil => exact absurd rfl h
  | cons a w => rfl
theorem isWord_ne {w : List UInt8} (h : isWord w = true) : w ≠ [] := by
  rintro rfl; exact absurd h (by decide)
theorem head_app (w r : List UInt8) (h : ∀ c ∈ w, c ≠ 32) (hr : r = [] ∨ ∃ t, r = 32 :: t) : head (w ++ r) = w := by
  unfold head
  induction w with
  | nil => rcases hr with rfl | ⟨t, rfl⟩ <;> rfl
  | cons a w ih =>
    have ha : (a != 32) = true := by simpa using h a (by simp)
    rw [List.cons_append, List.takeWhile_cons, if_pos ha, ih (fun c hc => h c (by simp [hc]))]
theorem word_app (w r : List UInt8) (h : isWord w = true) (hr : r = [] ∨ ∃ t, r = 32 :: t) : word (w ++ r) = some w := by
  have hne := isWord_ne h
  unfold isWord at h
  rw [if_neg hne] at h
  unfold word
  rw [b0_app _ _ hne]
  have hne2 : w ++ r ≠ [] := by simp [hne]
  by_cases hq : b0 w = 34
  · rw [if_pos hq] at h
    obtain ⟨x, hx⟩ := Option.isSome_iff_exists.1 h
    obtain rfl := unquote_some hx
    rw [if_pos ⟨hne2, hq⟩, quoted_quote, List.take_left', if_pos (by rw [unquote_quote]; rfl)]
    rfl
  · rw [if_neg hq, List.all_eq_true] at h
    have h32 : ∀ c ∈ w, 32 < c.toNat := fun c hc => by simpa using h c hc
    rw [if_neg (fun k => hq k.2), head_app w r (fun c hc e => by have := h32 c hc; rw [e] at this; exact absurd this (by decide)) hr, if_neg (by
      rw [Bool.not_eq_true, List.any_eq_false]
      intro c hc; have := h32 c hc; simp; omega), if_neg hne]
theorem takeWhile_all (p : UInt8 → Bool) : ∀ (l : List UInt8), ∀ c ∈ l.takeWhile p, p c = true
  | [], c, h => by cases h
  | a :: l, c, h => by
    rw [List.takeWhile_cons] at h
    split at h
    · rcases List.mem_cons.1 h with rfl | h
      · assumption
      · exact takeWhile_all p l c h
    · cases h
theorem word_some {l w : List UInt8} (h : word l = some w) : isWord w = true ∧ ∃ r, l = w ++ r := by
  unfold word at h
  by_cases hq : l ≠ [] ∧ b0 l = 34
  · rw [if_pos hq] at h
    split at h
    · rename_i hs
      cases h
      refine ⟨?_, _, (List.take_append_drop _ _).symm⟩
      obtain ⟨x, hx⟩ := Option.isSome_iff_exists.1 hs
      unfold isWord
      have he := unquote_some hx
      rw [if_neg (by rw [he]; simp [quote]), if_pos (by rw [he]; rfl), hs]
    · cases h
  · rw [if_neg hq] at h
    split at h
    · cases h
    · rename_i ha
      split at h
      · cases h
      · rename_i hn
        cases h
        refine ⟨?_, _, (List.takeWhile_append_dropWhile (p := fun c => c != 32) (l := l)).symm⟩
        unfold isWord
        have hl : l = head l ++ l.dropWhile (fun c => c != 32) := (List.takeWhile_append_dropWhile (p := fun c => c != 32) (l := l)).symm
        have hb : b0 (head l) = b0 l := by
          have := b0_app (head l) (l.dropWhile (fun c => c != 32)) hn
          rw [← hl] at this; exact this.symm
        have hln : l ≠ [] := by rintro rfl; exact hn rfl
        rw [if_neg hn, hb, if_neg (fun e => hq ⟨hln, e⟩), List.all_eq_true]
        intro c hc
        rw [Bool.not_eq_true, List.any_eq_false] at ha
        have h1 := ha c hc
        have h2 : (c != 32) = true := takeWhile_all (fun c => c != 32) l c hc
        have h3 : c.toNat ≠ 32 := fun e => by
          have : c = 32 := UInt8.toNat_inj.1 e
          rw [this] at h2; exact absurd h2 (by decide)
        simp at h1 ⊢; omega
/-- the words of a line that is not empty. -/
def wordsFrom (l : List UInt8) : Option (List (List UInt8)) :=
  match word l with
  | none => none
  | some w =>
    match h : l.drop w.length with
    | [] => some [w]
    | c :: t => if c = 32 then (wordsFrom t).map (w :: ·) else none
termination_by l.length
decreasing_by
  have := congrArg List.length h
  rw [List.length_drop] at this
  simp at this; omega
theorem wf_none {l : List UInt8} (h : word l = none) : wordsFrom l = none := by rw [wordsFrom, h]
theorem wf_one {l w : List UInt8} (h : word l = some w) (h2 : l.drop w.length = []) : wordsFrom l = some [w] := by
  rw [wordsFrom, h]; simp only
  split
  · rfl
  · rename_i h3; rw [h2] at h3; cases h3
theorem wf_step {l w t : List UInt8} (h : word l = some w) (h2 : l.drop w.length = 32 :: t) : wordsFrom l = (wordsFrom t).map (w :: ·) := by
  rw [wordsFrom, h]; simp only
  split
  · rename_i h3; rw [h2] at h3; cases h3
  · rename_i c t' h3; rw [h2] at h3; cases h3; exact if_pos rfl
theorem wf_bad {l w t : List UInt8} {c : UInt8} (h : word l = some w) (h2 : l.drop w.length = c :: t) (hc : c ≠ 32) : wordsFrom l = none := by
  rw [wordsFrom, h]; simp only
  split
  · rename_i h3; rw [h2] at h3; cases h3
  · rename_i c' t' h3; rw [h2] at h3; cases h3; exact if_neg hc
def words (l : List UInt8) : Option (List (List UInt8)) := if l = [] then some [] else wordsFrom l
theorem join_two (x y : List UInt8) (r : List (List UInt8)) : Lib.join (x :: y :: r) [32] = x ++ 32 :: Lib.join (y :: r) [32] := by
  rw [Lib.join_cons, Lib.join_cons]
  simp [Lib.joinTail]
theorem wordsFrom_join : ∀ (r : List (List UInt8)) (x : List UInt8), isWord x = true → (∀ y ∈ r, isWord y = true) → wordsFrom (Lib.join (x :: r) [32]) = some (x :: r) := by
  intro r
  induction r with
  | nil =>
    intro x hx _
    rw [Lib.join_one]
    have := word_app x [] hx (.inl rfl)
    rw [List.append_nil] at this
    exact wf_one this (by simp)
  | cons y r ih =>
    intro x hx hr
    rw [join_two]
    have := word_app x (32 :: Lib.join (y :: r) [32]) hx (.inr ⟨_, rfl⟩)
    rw [wf_step this (t := Lib.join (y :: r) [32]) (by simp), ih y (hr y (by simp)) (fun z hz => hr z (by simp [hz]))]
    rfl
theorem words_join (l : List (List UInt8)) (h : ∀ x ∈ l, isWord x = true) : words (Lib.join l [32]) = some l := by
  cases l with
  | nil => rfl
  | cons x r =>
    have hx := isWord_ne (h x (by simp))
    have hn : Lib.join (x :: r) [32] ≠ [] := by
      rw [Lib.join_cons]; simp [hx]
    unfold words
    rw [if_neg hn]
    exact wordsFrom_join r x (h x (by simp)) (fun y hy => h y (by simp [hy]))
theorem wordsFrom_some : ∀ (m : Nat) (l : List UInt8) (ws : List (List UInt8)), l.length ≤ m → wordsFrom l = some ws → (∀ x ∈ ws, isWord x = true) ∧ Lib.join ws [32] = l ∧ ws ≠ [] := by
  intro m
  induction m with
  | zero =>
    intro l ws h hw
    obtain rfl : l = [] := List.eq_nil_of_length_eq_zero (by omega)
    rw [wf_none (by rfl)] at hw; cases hw
  | succ m ih =>
    intro l ws h hw
    rcases he : word l with _ | w
    · rw [wf_none he] at hw; cases hw
    · obtain ⟨h1, r, rfl⟩ := word_some he
      have hd : (w ++ r).drop w.length = r := by simp
      cases r with
      | nil =>
        rw [wf_one he hd] at hw; cases hw
        refine ⟨by simpa using h1, by rw [Lib.join_one]; simp, by simp⟩
      | cons c t =>
        by_cases hc : c = 32
        · subst hc
          rw [wf_step he hd] at hw
          rcases ht : wordsFrom t with _ | ws'
          · rw [ht] at hw; cases hw
          · rw [ht] at hw; cases hw
            obtain ⟨i1, i2, i3⟩ := ih t ws' (by simp at h; omega) ht
            refine ⟨fun x hx => ?_, ?_, by simp⟩
            · rcases List.mem_cons.1 hx with rfl | hx
              · exact h1
              · exact i1 x hx
            · cases ws' with
              | nil => exact absurd rfl i3
              | cons y ws' => rw [join_two, i2]
        · rw [wf_bad he hd hc] at hw; cases hw
theorem words_some {l : List UInt8} {ws : List (List UInt8)} (h : words l = some ws) : (∀ x ∈ ws, isWord x = true) ∧ Lib.join ws [32] = l := by
  unfold words at h
  split at h
  · rename_i hl; cases h; subst hl; exact ⟨by simp, rfl⟩
  · have := wordsFrom_some l.length l ws (Nat.le_refl _) h; exact ⟨this.1, this.2.1⟩
end Go.Proofs.YtdgbpmbknlhgmaaGreatDoor.Qt
