/-
pack.Reader's methods from a state that may hold a fault; what the states come to, in plain words.
-/
import Derived.Test.YtdgbpmbknlhgmaaGreatDoorAnsB
set_option linter.unusedVariables false
set_option linter.unusedSimpArgs false
namespace Go.Proofs.YtdgbpmbknlhgmaaGreatDoor
open Go.RowKit Qt Vm

/-- a reader: where it stands, or that it found a fault. -/
def RdSt (w : World) (g : Nat) (l : List UInt8) (st : Option Nat) : Prop := match st with | some q => RdOk w g l q | none => RdNo w g
theorem RdSt.lt {w : World} {g : Nat} {l : List UInt8} {st : Option Nat} (h : RdSt w g l st) : g < w.heap.size := by
  cases st with
  | none => exact RdNo.lt h
  | some q => exact RdOk.lt h
theorem RdSt.below {w w' : World} {g : Nat} {l : List UInt8} {st : Option Nat} (h : RdSt w g l st) (hb : Below w.heap.size w w') : RdSt w' g l st := by
  cases st with
  | none => exact RdNo.below h hb
  | some q => exact RdOk.below h hb
theorem RdSt.far {w : World} {g : Nat} {l : List UInt8} {st : Option Nat} (h : RdSt w g l st) {p : Addr} (hp : g < p.block) (u : Value) : RdSt (w.setCell p u) g l st := by
  cases st with
  | none => exact RdNo.far h hp u
  | some q => exact RdOk.far h hp u

def big : Nat := 9223372036854775807
theorem big_eq : ((big : Nat) : Int) = 9223372036854775807 := rfl
def numX (l : List UInt8) (st : Option Nat) : Option (Nat × Nat) := st.bind (numR big l)
def txtX (l : List UInt8) (st : Option Nat) : Option (List UInt8 × Nat) := st.bind (txtR 1048576 l)
def flgX (l : List UInt8) (st : Option Nat) : Option (Bool × Nat) := st.bind (flgR l)
def stOf {α : Type} (r : Option (α × Nat)) : Option Nat := r.map (·.2)
def valN (r : Option (Nat × Nat)) : Nat := (r.map (·.1)).getD 0
def valT (r : Option (List UInt8 × Nat)) : List UInt8 := (r.map (·.1)).getD []
def valF (r : Option (Bool × Nat)) : Bool := (r.map (·.1)).getD false

theorem rnumber_st (g : Nat) (l : List UInt8) (st : Option Nat) (w : World) (hl : l.length ≤ 1000000) (h : RdSt w g l st) :
    Calls Tryz.prog 48 #[.pointer (some ⟨g, 0, none⟩), .int .i64 9223372036854775807] w fun e w' => e = .returned (.int .i64 (valN (numX l st) : Int)) ∧ RdSt w' g l (stOf (numX l st)) ∧ w.grownBy w' (some g) := by
  cases st with
  | none => exact (rnumber_no g 9223372036854775807 w h).mono fun e w' ⟨h1, h2, h3⟩ => ⟨h1, h2, only_of_below h3 _⟩
  | some q =>
    have H := rnumber_calls g l q big w hl (by decide) h
    rw [big_eq] at H
    refine H.mono fun e w' ⟨h1, h2⟩ => ?_
    rcases h1 with ⟨v, q', hr, he, hk⟩ | ⟨hr, he, hk⟩
    · have e1 : numX l (some q) = some (v, q') := hr
      rw [e1]
      exact ⟨he, hk, h2⟩
    · have e1 : numX l (some q) = none := hr
      rw [e1]
      exact ⟨he, hk, h2⟩
theorem rtext_st (g : Nat) (l : List UInt8) (st : Option Nat) (w : World) (hl : l.length ≤ 1000000) (h : RdSt w g l st) :
    Calls Tryz.prog 95 #[.pointer (some ⟨g, 0, none⟩), .int .i64 1048576] w fun e w' => e = .returned (.string (str (valT (txtX l st)))) ∧ RdSt w' g l (stOf (txtX l st)) ∧ w.grownBy w' (some g) := by
  cases st with
  | none => exact (rtext_no g 1048576 w h).mono fun e w' ⟨h1, h2, h3⟩ => ⟨h1, h2, only_of_below h3 _⟩
  | some q =>
    refine (rtext_calls g l q 1048576 w hl (by omega) h).mono fun e w' ⟨h1, h2⟩ => ?_
    rcases h1 with ⟨v, q', hr, he, hk⟩ | ⟨hr, he, hk⟩
    · have e1 : txtX l (some q) = some (v, q') := hr
      rw [e1]
      exact ⟨he, hk, h2⟩
    · have e1 : txtX l (some q) = none := hr
      rw [e1]
      exact ⟨he, hk, h2⟩
theorem valT_len (l : List UInt8) (st : Option Nat) : (valT (txtX l st)).length ≤ l.length := by
  cases st with
  | none => exact Nat.zero_le _
  | some q =>
    have e : txtX l (some q) = txtR 1048576 l q := rfl
    rw [e]
    unfold txtR
    cases cntR 1048576 l q with
    | none => exact Nat.zero_le _
    | some p =>
      show ((l.drop p.2).take p.1).length ≤ _
      rw [List.length_take, List.length_drop]; omega
/-! ### in plain words -/
theorem numX_read (l : List UInt8) (q : Nat) : numX l (some q) = ((Fk.num.read 1048576 (l.drop q)).map fun p => ((match p.1 with | .num n => n | _ => 0), q + p.2)) := by
  show numR big l q = _
  unfold numR Fk.read
  rcases hv : vget (l.drop q) with _ | ⟨v, k⟩
  · rfl
  · have := (vget_some hv).2.2.2.1
    simp only
    rw [if_pos (by show v ≤ 9223372036854775807; omega)]; rfl
theorem num_next {l : List UInt8} {st : Option Nat} {q' : Nat} (h : stOf (numX l st) = some q') : ∃ q k n, st = some q ∧ Fk.num.read 1048576 (l.drop q) = some (.num n, k) ∧ q' = q + k ∧ valN (numX l st) = n := by
  cases st with
  | none => cases h
  | some q =>
    rw [numX_read] at h
    rcases hr : Fk.num.read 1048576 (l.drop q) with _ | ⟨v, k⟩
    · rw [hr] at h; cases h
    · have hk := (read_some hr).1
      cases v with
      | num n =>
        rw [hr] at h
        refine ⟨q, k, n, rfl, hr, ?_, ?_⟩
        · have h : some (q + k) = some q' := h
          injection h with h; exact h.symm
        · rw [numX_read, hr]; rfl
      | txt s => cases hk
      | flag b => cases hk
theorem txt_next {l : List UInt8} {st : Option Nat} {q' : Nat} (h : stOf (txtX l st) = some q') : ∃ q k s, st = some q ∧ Fk.txt.read 1048576 (l.drop q) = some (.txt s, k) ∧ q' = q + k ∧ valT (txtX l st) = s := by
  cases st with
  | none => cases h
  | some q =>
    have e : txtX l (some q) = txtR 1048576 l q := rfl
    rw [e] at h ⊢
    unfold txtR cntR numR at h ⊢
    rcases hv : vget (l.drop q) with _ | ⟨n, k⟩
    · rw [hv] at h; cases h
    · rw [hv] at h
      simp only at h ⊢
      by_cases h1 : n ≤ 1048576
      · rw [if_pos h1] at h ⊢
        simp only at h ⊢
        by_cases h2 : n ≤ l.length - (q + k)
        · rw [if_pos h2] at h ⊢
          have h : some (q + k + n) = some q' := h
          injection h with h
          refine ⟨q, k + n, ((l.drop q).drop k).take n, rfl, by (unfold Fk.read; rw [hv]; exact if_pos ⟨h1, by rw [List.length_drop]; omega⟩), by omega, ?_⟩
          rw [List.drop_drop]; rfl
        · rw [if_neg h2] at h; cases h
      · rw [if_neg h1] at h; cases h
theorem flg_next {l : List UInt8} {st : Option Nat} {q' : Nat} (h : stOf (flgX l st) = some q') : ∃ q b, st = some q ∧ Fk.flag.read 1048576 (l.drop q) = some (.flag b, 1) ∧ q' = q + 1 ∧ valF (flgX l st) = b := by
  cases st with
  | none => cases h
  | some q =>
    have e : flgX l (some q) = flgR l q := rfl
    rw [e] at h ⊢
    unfold flgR at h ⊢
    cases hd : l.drop q with
    | nil => rw [hd] at h; cases h
    | cons c t =>
      rw [hd] at h
      simp only at h ⊢
      by_cases h1 : c.toNat ≤ 1
      · rw [if_pos h1] at h ⊢
        have h : some (q + 1) = some q' := h
        injection h with h
        exact ⟨q, c == 1, rfl, by (unfold Fk.read; rw [hd]; exact if_pos h1), h.symm, rfl⟩
      · rw [if_neg h1] at h; cases h
theorem num_goes {l t : List UInt8} {q n : Nat} (h : l.drop q = vb n ++ t) (hn : n < 9223372036854775808) : stOf (numX l (some q)) = some (q + (vb n).length) ∧ valN (numX l (some q)) = n := by
  have hr := read_bytes (most := 1048576) (.num n) t hn (by omega)
  rw [numX_read, h]
  have hr : Fk.num.read 1048576 (vb n ++ t) = some (.num n, (vb n).length) := hr
  rw [hr]
  exact ⟨rfl, rfl⟩
theorem txt_goes {l t s : List UInt8} {q : Nat} (h : l.drop q = (Fv.txt s).bytes ++ t) (hs : s.length ≤ 90000) : stOf (txtX l (some q)) = some (q + (Fv.txt s).bytes.length) ∧ valT (txtX l (some q)) = s := by
  have e : txtX l (some q) = txtR 1048576 l q := rfl
  have hv : vget (l.drop q) = some (s.length, (vb s.length).length) := by
    rw [h]
    show vget ((vb s.length ++ s) ++ t) = _
    rw [List.append_assoc, vget_vb _ _ (by omega)]
  have hb : (Fv.txt s).bytes.length = (vb s.length).length + s.length := by simp [Fv.bytes]
  have hl : l.length - q = (vb s.length).length + s.length + t.length := by
    rw [← List.length_drop, h, List.length_append, hb]
  have hd : l.drop (q + (vb s.length).length) = s ++ t := by
    rw [← List.drop_drop, h]
    show ((vb s.length ++ s) ++ t).drop _ = _
    rw [List.append_assoc, List.drop_left]
  rw [e]
  unfold txtR cntR numR
  rw [hv]
  simp only
  rw [if_pos (by omega)]
  simp only
  rw [if_pos (by omega)]
  refine ⟨?_, ?_⟩
  · show some (q + (vb s.length).length + s.length) = _
    rw [hb]; congr 1; omega
  · show (l.drop (q + (vb s.length).length)).take s.length = s
    rw [hd, List.take_left']; rfl
theorem flg_goes {l t : List UInt8} {q : Nat} {b : Bool} (h : l.drop q = (Fv.flag b).bytes ++ t) : stOf (flgX l (some q)) = some (q + 1) ∧ valF (flgX l (some q)) = b := by
  have e : flgX l (some q) = flgR l q := rfl
  rw [e]
  unfold flgR
  rw [h]
  cases b
  · exact ⟨rfl, rfl⟩
  · exact ⟨rfl, rfl⟩
end Go.Proofs.YtdgbpmbknlhgmaaGreatDoor
