/-
Plain lists of bytes: runes, quoted forms, what leads back from them, words of a line. No program in sight.
-/
import Derived.Lib.DecodeN
import Derived.Lib.MapLaws
set_option linter.unusedVariables false
set_option linter.unusedSimpArgs false
namespace Go.Proofs.YtdgbpmbknlhgmaaDoor.Qt

def b0 (l : List UInt8) : UInt8 := l.getD 0 0
/-- the rune with which a text begins, and its bytes' number: (65533, 1) where there is none. -/
def dec (l : List UInt8) : Nat × Nat := Lib.decodeN l.length (l.getD 0 0).toNat (l.getD 1 0).toNat (l.getD 2 0).toNat (l.getD 3 0).toNat
theorem get_drop (s : ByteArray) (p k : Nat) : s.get! (p + k) = (s.data.toList.drop p).getD k 0 := by
  rw [List.getD_eq_getElem?_getD, List.getElem?_drop, Array.getElem?_toList]
  show s.data[p + k]! = _
  rw [getElem!_def]
  cases s.data[p + k]? <;> rfl
theorem dec_at (s : ByteArray) (p : Nat) : Utf8.decode s p = dec (s.data.toList.drop p) := by
  rw [Lib.decode_at]
  unfold dec
  rw [← get_drop, ← get_drop, ← get_drop, ← get_drop, List.length_drop, Nat.add_zero]
  rfl

/-- how a text begins. -/
theorem dec_cases (l : List UInt8) (h : l ≠ []) :
    ((b0 l).toNat < 128 ∧ dec l = ((b0 l).toNat, 1)) ∨ (128 ≤ (b0 l).toNat ∧ dec l = (65533, 1)) ∨
    (∃ c n, dec l = (c, n) ∧ 2 ≤ n ∧ n ≤ 4 ∧ n ≤ l.length ∧ 128 ≤ c ∧ c ≤ 1114111 ∧ ∀ x ∈ l.take n, 128 ≤ x.toNat) := by
  have hs := Lib.decodeN_shape l.length (l.getD 0 0).toNat (l.getD 1 0).toNat (l.getD 2 0).toNat (l.getD 3 0).toNat
  have e0 : (l.getD 0 0).toNat < 256 := UInt8.toNat_lt _
  rcases hs with ⟨h1, h2⟩ | ⟨h1, h2, h3, h4, h5⟩ | ⟨h1, h2, h3, h4, h5, h6, h7⟩ | ⟨h1, h2, h3, h4, h5, h6, h7, h8⟩ | h1
  · exact .inl ⟨h1, h2⟩
  · refine .inr (.inr ⟨_, _, h5, by omega, by omega, by omega, h4, by omega, fun x hx => ?_⟩)
    rw [Lib.takeB l (by omega)] at hx
    simp only [List.mem_cons, List.not_mem_nil, or_false] at hx
    rcases hx with rfl | rfl <;> omega
  · refine .inr (.inr ⟨_, _, h7, by omega, by omega, by omega, by omega, by omega, fun x hx => ?_⟩)
    rw [Lib.takeC l (by omega)] at hx
    simp only [List.mem_cons, List.not_mem_nil, or_false] at hx
    rcases hx with rfl | rfl | rfl <;> omega
  · refine .inr (.inr ⟨_, _, h8, by omega, by omega, by omega, by omega, by omega, fun x hx => ?_⟩)
    rw [Lib.takeD l (by omega)] at hx
    simp only [List.mem_cons, List.not_mem_nil, or_false] at hx
    rcases hx with rfl | rfl | rfl | rfl <;> omega
  · by_cases hb : (b0 l).toNat < 128
    · refine .inl ⟨hb, ?_⟩
      unfold dec Lib.decodeN
      rw [if_pos (show (l.getD 0 0).toNat < 128 from hb)]; rfl
    · exact .inr (.inl ⟨by omega, h1⟩)
theorem dec_pos (l : List UInt8) (h : l ≠ []) : 1 ≤ (dec l).2 ∧ (dec l).2 ≤ l.length ∧ (dec l).2 ≤ 4 := by
  have hl : 1 ≤ l.length := List.length_pos_iff.2 h
  rcases dec_cases l h with ⟨_, e⟩ | ⟨_, e⟩ | ⟨c, n, e, h1, h2, h3, _⟩ <;> rw [e] <;> simp only <;> omega

/-! ### quoted forms -/
def hx (d : Nat) : UInt8 := if d < 10 then UInt8.ofNat (48 + d) else UInt8.ofNat (87 + d)
def esc (b : UInt8) : List UInt8 := [92, 120, hx (b.toNat / 16), hx (b.toNat % 16)]
/-- how a rune stands in quotes. -/
def piece (l : List UInt8) : List UInt8 :=
  if (dec l).1 = 34 ∨ (dec l).1 = 92 then 92 :: l.take (dec l).2
  else if (dec l).1 < 32 ∨ (dec l).1 = 127 ∨ ((dec l).1 = 65533 ∧ (dec l).2 = 1) then esc (b0 l)
  else l.take (dec l).2
def body (l : List UInt8) : List UInt8 := if h : l = [] then [] else piece l ++ body (l.drop (dec l).2)
termination_by l.length
decreasing_by
  have := dec_pos l h
  rw [List.length_drop]
  omega
theorem body_nil : body [] = [] := by rw [body, dif_pos rfl]
theorem body_step (l : List UInt8) (h : l ≠ []) : body l = piece l ++ body (l.drop (dec l).2) := by rw [body, dif_neg h]
def quote (l : List UInt8) : List UInt8 := 34 :: (body l ++ [34])

theorem hx_lt (d : Nat) (h : d < 16) : (48 ≤ (hx d).toNat ∧ (hx d).toNat ≤ 57 ∧ (hx d).toNat = 48 + d) ∨ (97 ≤ (hx d).toNat ∧ (hx d).toNat ≤ 102 ∧ (hx d).toNat = 87 + d) := by
  have : ∀ d, d < 16 → (48 ≤ (hx d).toNat ∧ (hx d).toNat ≤ 57 ∧ (hx d).toNat = 48 + d) ∨ (97 ≤ (hx d).toNat ∧ (hx d).toNat ≤ 102 ∧ (hx d).toNat = 87 + d) := by decide
  exact this d h
theorem take_one (l : List UInt8) (h : l ≠ []) : l.take 1 = [b0 l] := by
  cases l with
  | nil => exact absurd rfl h
  | cons a l => rfl
/-- the three forms of a piece. -/
theorem piece_cases (l : List UInt8) (h : l ≠ []) :
    ((dec l).2 = 1 ∧ (b0 l = 34 ∨ b0 l = 92) ∧ piece l = [92, b0 l]) ∨
    ((dec l).2 = 1 ∧ piece l = esc (b0 l)) ∨
    (piece l = l.take (dec l).2 ∧ ∀ x ∈ l.take (dec l).2, x ≠ 34 ∧ x ≠ 92 ∧ 32 ≤ x.toNat) := by
  unfold piece
  rcases dec_cases l h with ⟨h1, e⟩ | ⟨h1, e⟩ | ⟨c, n, e, h1, h2, h3, h4, h5, h6⟩
  · rw [e]
    simp only
    by_cases hq : (b0 l).toNat = 34 ∨ (b0 l).toNat = 92
    · refine .inl ⟨trivial, ?_, ?_⟩
      · rcases hq with hq | hq
        · exact .inl (UInt8.toNat_inj.1 hq)
        · exact .inr (UInt8.toNat_inj.1 hq)
      · rw [if_pos hq, take_one l h]
    · by_cases hc : (b0 l).toNat < 32 ∨ (b0 l).toNat = 127 ∨ ((b0 l).toNat = 65533 ∧ True)
      · exact .inr (.inl ⟨trivial, by rw [if_neg hq, if_pos hc]⟩)
      · refine .inr (.inr ⟨by rw [if_neg hq, if_neg hc], fun x hx => ?_⟩)
        rw [take_one l h, List.mem_singleton] at hx
        subst hx
        refine ⟨fun e => hq (.inl (by rw [e]; rfl)), fun e => hq (.inr (by rw [e]; rfl)), by omega⟩
  · rw [e]
    exact .inr (.inl ⟨rfl, by rw [if_neg (by omega), if_pos (.inr (.inr ⟨rfl, rfl⟩))]⟩)
  · rw [e]
    simp only
    refine .inr (.inr ⟨by rw [if_neg (by omega), if_neg (by omega)], fun x hx => ?_⟩)
    have := h6 x hx
    refine ⟨fun e => ?_, fun e => ?_, by omega⟩
    · rw [e] at this; exact absurd this (by decide)
    · rw [e] at this; exact absurd this (by decide)

/-! ### back from quotes -/
/-- a hexadecimal digit's number. -/
def val (c : UInt8) : Option Nat := if 48 ≤ c.toNat ∧ c.toNat ≤ 57 then some (c.toNat - 48) else if 97 ≤ c.toNat ∧ c.toNat ≤ 102 then some (c.toNat - 87) else none
theorem val_hx (d : Nat) (h : d < 16) : val (hx d) = some d := by
  have : ∀ d, d < 16 → val (hx d) = some d := by decide
  exact this d h
/-- the byte of an escape behind its backslash, and how long that is. -/
def unesc1 (l : List UInt8) : Option (UInt8 × Nat) :=
  match l with
  | [] => none
  | a :: t => if a = 34 ∨ a = 92 then some (a, 1) else
    match t with
    | p :: q :: _ => if a = 120 then
        match val p, val q with
        | some x, some y => some (UInt8.ofNat (16 * x + y), 3)
        | _, _ => none
      else none
    | _ => none
theorem unesc1_pos {l : List UInt8} {x : UInt8} {n : Nat} (h : unesc1 l = some (x, n)) : 1 ≤ n ∧ n ≤ l.length := by
  unfold unesc1 at h
  repeat' split at h
  all_goals first | (cases h; done) | (simp at h; obtain ⟨_, rfl⟩ := h; simp)
/-- the bytes of what stands between the quotes. -/
def unbody (l : List UInt8) : Option (List UInt8) :=
  match l with
  | [] => some []
  | c :: t => if c = 92 then
      match h : unesc1 t with
      | none => none
      | some (x, n) => (unbody (t.drop n)).map (x :: ·)
    else (unbody t).map (c :: ·)
termination_by l.length
decreasing_by
  · have := unesc1_pos h; simp; omega
  · simp
theorem unbody_nil : unbody [] = some [] := by rw [unbody]
theorem unbody_plain (c : UInt8) (t : List UInt8) (h : c ≠ 92) : unbody (c :: t) = (unbody t).map (c :: ·) := by rw [unbody, if_neg h]
theorem unbody_none (t : List UInt8) (h : unesc1 t = none) : unbody (92 :: t) = none := by
  rw [unbody, if_pos rfl]; split
  · rfl
  · rename_i h2; rw [h] at h2; cases h2
theorem unbody_esc (t : List UInt8) (x : UInt8) (n : Nat) (h : unesc1 t = some (x, n)) : unbody (92 :: t) = (unbody (t.drop n)).map (x :: ·) := by
  rw [unbody, if_pos rfl]; split
  · rename_i h2; rw [h] at h2; cases h2
  · rename_i x2 n2 h2; rw [h] at h2; cases h2; rfl
theorem unbody_app (p : List UInt8) : (∀ x ∈ p, x ≠ 92) → ∀ t, unbody (p ++ t) = (unbody t).map (p ++ ·) := by
  induction p with
  | nil => intro _ t; rw [List.nil_append]; cases unbody t <;> rfl
  | cons a p ih =>
    intro h t
    rw [List.cons_append, unbody_plain _ _ (h a (by simp)), ih (fun x hx => h x (by simp [hx]))]
    cases unbody t <;> rfl
/-- quotes lead back. -/
theorem unbody_body : ∀ (m : Nat) (l : List UInt8), l.length ≤ m → unbody (body l) = some l := by
  intro m
  induction m with
  | zero =>
    intro l h
    obtain rfl : l = [] := List.eq_nil_of_length_eq_zero (by omega)
    rw [body_nil, unbody_nil]
  | succ m ih =>
    intro l h
    by_cases hl : l = []
    · rw [hl, body_nil, unbody_nil]
    · have hp := dec_pos l hl
      have hd := ih (l.drop (dec l).2) (by rw [List.length_drop]; omega)
      rw [body_step l hl]
      rcases piece_cases l hl with ⟨h1, h2, h3⟩ | ⟨h1, h2⟩ | ⟨h1, h2⟩
      · rw [h3, h1]
        rw [h1] at hd
        have e : unesc1 (b0 l :: body (l.drop 1)) = some (b0 l, 1) := by simp only [unesc1]; rw [if_pos h2]
        rw [List.cons_append, List.cons_append, List.nil_append, unbody_esc _ _ _ e]
        show (unbody (body (l.drop 1))).map _ = _
        rw [hd]
        cases l with
        | nil => exact absurd rfl hl
        | cons a l => rfl
      · rw [h2, h1]
        rw [h1] at hd
        have hb := (b0 l).toNat_lt
        have e : unesc1 (120 :: hx ((b0 l).toNat / 16) :: hx ((b0 l).toNat % 16) :: body (l.drop 1)) = some (b0 l, 3) := by
          simp only [unesc1, val_hx _ (show (b0 l).toNat / 16 < 16 by omega), val_hx _ (show (b0 l).toNat % 16 < 16 by omega)]
          rw [if_neg (by decide), if_pos trivial, show 16 * ((b0 l).toNat / 16) + (b0 l).toNat % 16 = (b0 l).toNat by omega]
          simp
        show unbody (92 :: (120 :: hx ((b0 l).toNat / 16) :: hx ((b0 l).toNat % 16) :: body (l.drop 1))) = _
        rw [unbody_esc _ _ _ e]
        show (unbody (body (l.drop 1))).map _ = _
        rw [hd]
        cases l with
        | nil => exact absurd rfl hl
        | cons a l => rfl
      · rw [h1, unbody_app _ (fun x hx => (h2 x hx).2.1), hd]
        simp
theorem quote_ne (l : List UInt8) : 2 ≤ (quote l).length := by simp [quote]
/-- the text of one in quotes. -/
def inner (s : List UInt8) : List UInt8 := (s.drop 1).take (s.length - 2)
theorem inner_quote (l : List UInt8) : inner (quote l) = body l := by simp [inner, quote]
def unquote (s : List UInt8) : Option (List UInt8) :=
  match unbody (inner s) with
  | none => none
  | some x => if 2 ≤ s.length ∧ quote x = s then some x else none
theorem unquote_quote (l : List UInt8) : unquote (quote l) = some l := by
  unfold unquote
  rw [inner_quote, unbody_body l.length l (Nat.le_refl _)]
  exact if_pos ⟨quote_ne l, rfl⟩
theorem unquote_some {s x : List UInt8} (h : unquote s = some x) : s = quote x := by
  unfold unquote at h
  split at h
  · cases h
  · split at h
    · rename_i h2; cases h; exact h2.2.symm
    · cases h
end Go.Proofs.YtdgbpmbknlhgmaaDoor.Qt
