/-
strconv.Atoi at any text; what the walks need of the package variables, with the two errors.
-/
import Derived.Test.YtdgbpmbknlhgmaaGreatDoorDig
set_option linter.unusedVariables false
set_option linter.unusedSimpArgs false
namespace Go.Proofs.YtdgbpmbknlhgmaaGreatDoor
open Go.RowKit Qt

/-- the number that a text is read as: where it spells none, 0; where it spells too great a one, the greatest or the least. -/
def atoiZ (l : List UInt8) : Int :=
  match Lib.atoiAll l with
  | .ok v => v
  | .range => Lib.atoiSat l
  | _ => 0
theorem atoiZ_fits (l : List UInt8) : -9223372036854775808 ≤ atoiZ l ∧ atoiZ l ≤ 9223372036854775807 := by
  unfold atoiZ
  rcases h : Lib.atoiAll l with v | _ | _
  · exact Lib.atoiAll_bounds h
  · exact ⟨(by omega : (-9223372036854775808 : Int) ≤ 0), (by omega : (0 : Int) ≤ 9223372036854775807)⟩
  · exact Lib.atoiSat_bounds l
theorem atoiZ_dd {u : Nat} (hu : u < 9223372036854775808) : atoiZ (Lib.decDigits u) = (u : Int) := by
  unfold atoiZ; rw [atoi_dd hu]
def ErrAt (w : World) (g : Nat) : Prop := ∃ ev, w.cell? ⟨g, 0, none⟩ = some ev ∧ (ev = .nilIface ∨ ∃ te pe, ev = .iface te pe)
theorem ErrAt.below {w w' : World} {g : Nat} (h : ErrAt w g) (hb : Below w.heap.size w w') : ErrAt w' g := by
  obtain ⟨ev, hc, he⟩ := h
  refine ⟨ev, (hb.cell (p := ⟨g, 0, none⟩) ?_).trans hc, he⟩
  rcases Nat.lt_or_ge g w.heap.size with h' | h'
  · exact h'
  · simp [World.cell?, Array.getElem?_eq_none h'] at hc
structure EVars (w : World) : Prop where
  a : AVars w
  e2 : ErrAt w 2
  e3 : ErrAt w 3
theorem EVars.below {w w' : World} (h : EVars w) (hb : Below w.heap.size w w') : EVars w' := ⟨h.a.below hb, h.e2.below hb, h.e3.below hb⟩
theorem EVars.alloc {w : World} (h : EVars w) (o : Obj) : EVars (w.alloc o) := h.below ((Below.refl _ _).alloc (Nat.le_refl _) o)
theorem atoi_calls (s : ByteArray) (w : World) (hs : s.size ≤ 1000000) (hv : EVars w) :
    Calls Tryz.prog 97 #[.string s] w fun e w' => ∃ ev, e = .returned (.tuple #[.int .i64 (atoiZ (toL s)), ev]) ∧ Below w.heap.size w w' := by
  unfold atoiZ
  rcases h : Lib.atoiAll s.data.toList with v | _ | _
  · refine (Tryz.strconv_Atoi_ok s (by omega) v h w).mono ?_
    rintro e w' ⟨rfl, rfl | ⟨t, rfl⟩⟩
    · exact ⟨_, by rw [show toL s = s.data.toList from rfl, h], Below.refl _ _⟩
    · exact ⟨_, by rw [show toL s = s.data.toList from rfl, h], Lib.bytesWorld_below _ _ _⟩
  · obtain ⟨ev, hc, he⟩ := hv.e2
    refine (Any.strconv_Atoi_syntax Tryz.laysC172 s (by omega) h ev w hc he).mono ?_
    rintro e w' ⟨N, rfl, _, _, hb⟩
    exact ⟨_, by rw [show toL s = s.data.toList from rfl, h], hb⟩
  · obtain ⟨ev, hc, he⟩ := hv.e3
    refine (Tryz.strconv_Atoi_range s (by omega) h ev w hc he).mono ?_
    rintro e w' ⟨N, rfl, _, _, hb⟩
    exact ⟨_, by rw [show toL s = s.data.toList from rfl, h], hb⟩
/-! ### a text in quotes is no shorter than what it quotes -/
theorem unbody_len : ∀ (m : Nat) (l x : List UInt8), l.length ≤ m → unbody l = some x → x.length ≤ l.length := by
  intro m
  induction m with
  | zero =>
    intro l x hl h
    have : l = [] := List.eq_nil_of_length_eq_zero (by omega)
    subst this
    rw [unbody] at h
    cases h; simp
  | succ m ih =>
    intro l x hl h
    cases l with
    | nil => rw [unbody] at h; cases h; simp
    | cons c t =>
      simp only [List.length_cons] at hl
      rw [unbody] at h
      split at h
      · split at h
        · cases h
        · rename_i y n hn
          cases hu : unbody (t.drop n) with
          | none => rw [hu] at h; cases h
          | some z =>
            rw [hu] at h
            have h : some (y :: z) = some x := h
            cases h
            have := ih (t.drop n) z (by rw [List.length_drop]; omega) hu
            rw [List.length_drop] at this
            simp only [List.length_cons]; omega
      · cases hu : unbody t with
        | none => rw [hu] at h; cases h
        | some z =>
          rw [hu] at h
          have h : some (c :: z) = some x := h
          cases h
          have := ih t z (by omega) hu
          simp only [List.length_cons]; omega
theorem quote_ge (x : List UInt8) : x.length ≤ (quote x).length := by
  have := unbody_len _ _ _ (Nat.le_refl _) (unbody_body x.length x (Nat.le_refl _))
  unfold quote
  simp only [List.length_cons, List.length_append, List.length_nil]; omega
theorem uqT_len (l : List UInt8) : (uqT l).length ≤ l.length := by
  cases h : unquote l with
  | none => rw [(uq_none h).1]; simp
  | some x => rw [(uq_some h).1, unquote_some h]; exact quote_ge x
theorem getD_len {ws : List (List UInt8)} {l : List UInt8} (h : Lib.join ws [32] = l) (i : Nat) : (ws.getD i []).length ≤ l.length := by
  by_cases hi : i < ws.length
  · rw [List.getD_eq_getElem?_getD, List.getElem?_eq_getElem hi]
    have := join_mem ws ws[i] (List.getElem_mem hi)
    rw [h] at this
    exact this
  · rw [List.getD_eq_getElem?_getD, List.getElem?_eq_none (by omega)]; simp
theorem wdL_join {l : List UInt8} (h : wdE l = 0) : Lib.join (wdL l) [32] = l ∧ ∀ x ∈ wdL l, isWord x = true := by
  cases hw : words l with
  | none => rw [(wd_none hw).2] at h; exact absurd h (by decide)
  | some ws =>
    rw [(wd_some hw).1]
    exact ⟨(words_some hw).2, (words_some hw).1⟩
end Go.Proofs.YtdgbpmbknlhgmaaGreatDoor
