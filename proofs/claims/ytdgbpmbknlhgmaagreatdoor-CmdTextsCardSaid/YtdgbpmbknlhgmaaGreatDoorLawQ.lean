/-
The walks through the laws QuoteTexts, QuoteReads, QuoteLines.
-/
import Derived.Test.YtdgbpmbknlhgmaaGreatDoorWords
set_option linter.unusedVariables false
set_option linter.unusedSimpArgs false
namespace Go.Proofs.YtdgbpmbknlhgmaaGreatDoor
open Go.RowKit Qt

/-- what the walks need of the package variables. -/
structure QVars (w : World) : Prop where
  tab : Lib.Utf8Tabs 0 1 w
  max : ∃ m : Int, w.cell? ⟨5, 0, none⟩ = some (.int .i64 m)
theorem QVars.below {w w' : World} (h : QVars w) (hb : Below w.heap.size w w') : QVars w' :=
  ⟨Utf8Tabs_below h.tab hb, h.max.elim fun m hm => ⟨m, max_below hm hb⟩⟩
theorem wordsQ_calls (s : ByteArray) (w : World) (hs : s.size ≤ 1000000) (hv : QVars w) :
    Calls Tryz.prog 53 #[.string s] w fun e w' => ∃ A n c, e = .returned (.tuple #[.slice A n c, .int .i64 (wdE (toL s))]) ∧ n ≤ c ∧ TxAt w' A n (wdL (toL s)) ∧ Below w.heap.size w w' :=
  hv.max.elim fun m hm => words_calls s m w hs hv.tab hm
def exL : List (List UInt8) := [[97], [34, 98, 32, 99, 34]]
theorem exQ : quote [98, 32, 99] = [34, 98, 32, 99, 34] := by
  unfold quote
  rw [body_step _ (List.cons_ne_nil _ _), show piece [98, 32, 99] = [98] by decide, show (dec [98, 32, 99]).2 = 1 by decide]
  rw [show ([98, 32, 99] : List UInt8).drop 1 = [32, 99] from rfl, body_step _ (List.cons_ne_nil _ _), show piece [32, 99] = [32] by decide, show (dec [32, 99]).2 = 1 by decide]
  rw [show ([32, 99] : List UInt8).drop 1 = [99] from rfl, body_step _ (List.cons_ne_nil _ _), show piece [99] = [99] by decide, show (dec [99]).2 = 1 by decide]
  rw [show ([99] : List UInt8).drop 1 = [] from rfl, body_nil]; rfl
theorem exW : words [97, 32, 34, 98, 32, 99, 34] = some exL := by
  have h := words_join exL (by
    intro x hx
    simp only [exL, List.mem_cons, List.not_mem_nil, or_false] at hx
    rcases hx with rfl | rfl
    · decide
    · rw [← exQ]
      unfold isWord
      rw [if_neg (by simp [quote]), if_pos (by rfl), unquote_quote]; rfl)
  exact h

theorem body_len : ∀ (m : Nat) (l : List UInt8), l.length ≤ m → (body l).length ≤ 4 * l.length := by
  intro m
  induction m with
  | zero =>
    intro l h
    obtain rfl : l = [] := List.eq_nil_of_length_eq_zero (by omega)
    rw [body_nil]; exact Nat.zero_le _
  | succ m ih =>
    intro l h
    by_cases hl : l = []
    · rw [hl, body_nil]; exact Nat.zero_le _
    · have hp := dec_pos l hl
      have hd := ih (l.drop (dec l).2) (by rw [List.length_drop]; omega)
      rw [List.length_drop] at hd
      rw [body_step l hl, List.length_append]
      have : (piece l).length ≤ 4 * (dec l).2 := by
        rcases piece_cases l hl with ⟨h1, _, h3⟩ | ⟨h1, h2⟩ | ⟨h1, _⟩
        · rw [h3, h1]; exact (by decide : 2 ≤ 4)
        · rw [h2, h1]; exact Nat.le_refl 4
        · rw [h1, List.length_take]; omega
      omega
theorem quote_len (l : List UInt8) : (quote l).length ≤ 4 * l.length + 2 := by
  have := body_len _ l (Nat.le_refl _)
  simp [quote]; omega

theorem join_len : ∀ (ws : List (List UInt8)), (Lib.join ws [32]).length ≤ ws.flatten.length + ws.length
  | [] => Nat.le_refl _
  | [x] => by rw [Lib.join_one]; simp
  | x :: y :: r => by
    have := join_len (y :: r)
    rw [join_two]
    simp at this ⊢; omega
theorem join_mem : ∀ (ws : List (List UInt8)) (x : List UInt8), x ∈ ws → x.length ≤ (Lib.join ws [32]).length
  | [], x, h => by cases h
  | [a], x, h => by rw [List.mem_singleton] at h; subst h; rw [Lib.join_one]; exact Nat.le_refl _
  | a :: b :: ws, x, h => by
    rw [join_two, List.length_append, List.length_cons]
    rcases List.mem_cons.1 h with rfl | h
    · omega
    · have := join_mem (b :: ws) x h; omega
theorem join_count : ∀ (ws : List (List UInt8)), (∀ x ∈ ws, isWord x = true) → ws.length ≤ (Lib.join ws [32]).length
  | [], _ => Nat.zero_le _
  | [a], h => by
    have ha : 0 < a.length := List.length_pos_iff.2 (isWord_ne (h a (by simp)))
    rw [Lib.join_one]; exact ha
  | a :: b :: ws, h => by
    have ha : 0 < a.length := List.length_pos_iff.2 (isWord_ne (h a (by simp)))
    have := join_count (b :: ws) (fun x hx => h x (by simp [hx]))
    rw [join_two, List.length_append, List.length_cons]
    simp only [List.length_cons] at this ⊢; omega
theorem flat_mem {ws : List (List UInt8)} {x : List UInt8} (h : x ∈ ws) : x.length ≤ ws.flatten.length := by
  induction ws with
  | nil => cases h
  | cons a ws ih =>
    rw [List.flatten_cons, List.length_append]
    rcases List.mem_cons.1 h with rfl | h
    · omega
    · have := ih h; omega

end Go.Proofs.YtdgbpmbknlhgmaaGreatDoor
