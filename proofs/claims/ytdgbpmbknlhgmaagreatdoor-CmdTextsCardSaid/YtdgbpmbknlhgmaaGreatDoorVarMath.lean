/-
Plain lists of bytes: numbers in as few bytes as can be; fields one behind the other. No program in sight.
-/
import Derived.Test.YtdgbpmbknlhgmaaGreatDoorBase
set_option linter.unusedVariables false
set_option linter.unusedSimpArgs false
namespace Go.Proofs.YtdgbpmbknlhgmaaGreatDoor.Vm

/-- the bytes of a number. -/
def vb (n : Nat) : List UInt8 := if n < 128 then [UInt8.ofNat n] else UInt8.ofNat (128 + n % 128) :: vb (n / 128)
termination_by n
decreasing_by omega
theorem vb_small {n : Nat} (h : n < 128) : vb n = [UInt8.ofNat n] := by rw [vb, if_pos h]
theorem vb_step {n : Nat} (h : ¬ n < 128) : vb n = UInt8.ofNat (128 + n % 128) :: vb (n / 128) := by rw [vb, if_neg h]
theorem vb_pos (n : Nat) : 1 ≤ (vb n).length := by
  by_cases h : n < 128
  · rw [vb_small h]; exact Nat.le_refl _
  · rw [vb_step h]; simp
theorem vb_len : ∀ (k n : Nat), n < 128 ^ (k + 1) → (vb n).length ≤ k + 1 := by
  intro k
  induction k with
  | zero => intro n h; rw [vb_small (by simpa using h)]; exact Nat.le_refl _
  | succ k ih =>
    intro n h
    by_cases h1 : n < 128
    · rw [vb_small h1]; simp
    · rw [vb_step h1]
      have := ih (n / 128) (by rw [Nat.pow_succ] at h; omega)
      simp; omega
theorem vb_len9 {n : Nat} (h : n < 9223372036854775808) : (vb n).length ≤ 9 := vb_len 8 n (by simpa using h)

/-- the number at the head of bytes, and how many bytes it has. -/
def vgo : List UInt8 → Nat → Nat → Option (Nat × Nat)
  | [], _, _ => none
  | c :: t, i, acc =>
    if (0 < i ∧ c = 0) ∨ 8 < i then none
    else if c.toNat < 128 then some (acc + c.toNat % 128 * 128 ^ i, i + 1)
    else vgo t (i + 1) (acc + c.toNat % 128 * 128 ^ i)
def vget (l : List UInt8) : Option (Nat × Nat) := vgo l 0 0
theorem vgo_some : ∀ (l : List UInt8) (i acc n k : Nat), vgo l i acc = some (n, k) → acc < 128 ^ i → ∃ m, n = acc + m * 128 ^ i ∧ (0 < i → 0 < m) ∧ i < k ∧ k ≤ 9 ∧ m < 128 ^ (k - i) ∧ k - i ≤ l.length ∧ l.take (k - i) = vb m := by
  intro l
  induction l with
  | nil => intro i acc n k h; cases h
  | cons c t ih =>
    intro i acc n k h ha
    rw [vgo] at h
    have hc := c.toNat_lt
    split at h
    · cases h
    · rename_i hg
      have hpos : 0 < 128 ^ i := Nat.pow_pos (by omega)
      split at h
      · rename_i hs
        cases h
        refine ⟨c.toNat, by rw [Nat.mod_eq_of_lt hs], fun hi => ?_, by omega, by omega, ?_, by simp, ?_⟩
        · rcases Nat.eq_zero_or_pos c.toNat with h0 | h0
          · exact absurd (.inl ⟨hi, UInt8.toNat_inj.1 h0⟩) hg
          · exact h0
        · rw [show i + 1 - i = 1 by omega]; simpa using hs
        · rw [show i + 1 - i = 1 by omega, vb_small hs]; simp
      · rename_i hs
        have hm : c.toNat % 128 < 128 := Nat.mod_lt _ (by omega)
        have hbig : acc + c.toNat % 128 * 128 ^ i < 128 ^ (i + 1) := by
          rw [Nat.pow_succ]
          have : c.toNat % 128 * 128 ^ i ≤ 127 * 128 ^ i := Nat.mul_le_mul_right _ (by omega)
          omega
        obtain ⟨m, h1, h2, h3, h4, h5, h6, h7⟩ := ih (i + 1) _ n k h hbig
        have hk : k - i = (k - (i + 1)) + 1 := by omega
        refine ⟨c.toNat % 128 + 128 * m, ?_, fun _ => by have := h2 (by omega); omega, by omega, h4, ?_, by rw [List.length_cons]; omega, ?_⟩
        · rw [h1, Nat.add_mul, show m * 128 ^ (i + 1) = 128 * m * 128 ^ i by rw [Nat.pow_succ, Nat.mul_comm (128 ^ i) 128, ← Nat.mul_assoc, Nat.mul_comm m 128]]; omega
        · rw [hk, Nat.pow_succ]; omega
        · have hmp := h2 (by omega)
          have e1 : UInt8.ofNat (128 + (c.toNat % 128 + 128 * m) % 128) = c := by
            apply UInt8.toNat_inj.1
            rw [UInt8.toNat_ofNat']; omega
          rw [hk, List.take_succ_cons, h7, vb_step (n := c.toNat % 128 + 128 * m) (by omega), e1, show (c.toNat % 128 + 128 * m) / 128 = m by omega]
theorem vget_some {l : List UInt8} {n k : Nat} (h : vget l = some (n, k)) : 1 ≤ k ∧ k ≤ l.length ∧ l.take k = vb n ∧ n < 9223372036854775808 ∧ k = (vb n).length := by
  obtain ⟨m, h1, _, h3, h4, h5, h6, h7⟩ := vgo_some l 0 0 n k h (by decide)
  have hm : n = m := by rw [h1]; simp
  subst hm
  rw [Nat.sub_zero] at h5 h6 h7
  refine ⟨h3, h6, h7, ?_, ?_⟩
  · have : 128 ^ k ≤ 128 ^ 9 := Nat.pow_le_pow_right (by omega) h4
    have h9 : (128 : Nat) ^ 9 = 9223372036854775808 := by decide
    omega
  · rw [← h7, List.length_take]; omega
theorem vgo_vb : ∀ (k : Nat) (m i acc : Nat) (t : List UInt8), m < 128 ^ (k + 1) → i + k + 1 ≤ 9 → (0 < i → 0 < m) → vgo (vb m ++ t) i acc = some (acc + m * 128 ^ i, i + (vb m).length) := by
  intro k
  induction k with
  | zero =>
    intro m i acc t h hi hm
    have h : m < 128 := by simpa using h
    have hn : (UInt8.ofNat m).toNat = m := by rw [UInt8.toNat_ofNat']; omega
    rw [vb_small h]
    show vgo (UInt8.ofNat m :: t) i acc = _
    rw [vgo, if_neg (by
      rintro (⟨h1, h2⟩ | h1)
      · have := hm h1; have := congrArg UInt8.toNat h2; rw [hn] at this; simp at this; omega
      · omega), hn, if_pos h, Nat.mod_eq_of_lt h]; rfl
  | succ k ih =>
    intro m i acc t h hi hm
    by_cases h1 : m < 128
    · have hn : (UInt8.ofNat m).toNat = m := by rw [UInt8.toNat_ofNat']; omega
      rw [vb_small h1]
      show vgo (UInt8.ofNat m :: t) i acc = _
      rw [vgo, if_neg (by
        rintro (⟨h1, h2⟩ | h1)
        · have := hm h1; have := congrArg UInt8.toNat h2; rw [hn] at this; simp at this; omega
        · omega), hn, if_pos h1, Nat.mod_eq_of_lt h1]; rfl
    · have hn : (UInt8.ofNat (128 + m % 128)).toNat = 128 + m % 128 := by rw [UInt8.toNat_ofNat']; omega
      rw [vb_step h1]
      show vgo (UInt8.ofNat (128 + m % 128) :: (vb (m / 128) ++ t)) i acc = _
      rw [vgo, if_neg (by
        rintro (⟨h1, h2⟩ | h1)
        · have := congrArg UInt8.toNat h2; rw [hn] at this; simp at this
        · omega), hn, if_neg (by omega), ih (m / 128) (i + 1) _ t (by rw [Nat.pow_succ] at h; omega) (by omega) (fun _ => by omega)]
      rw [show (128 + m % 128) % 128 = m % 128 by omega, List.length_cons]
      congr 2
      · rw [Nat.pow_succ]
        have : m / 128 * (128 ^ i * 128) = 128 * (m / 128) * 128 ^ i := by rw [Nat.mul_comm (128 ^ i) 128, ← Nat.mul_assoc, Nat.mul_comm (m / 128) 128]
        rw [this, Nat.add_assoc, ← Nat.add_mul, show m % 128 + 128 * (m / 128) = m by omega]
      · omega
theorem vget_vb (n : Nat) (t : List UInt8) (h : n < 9223372036854775808) : vget (vb n ++ t) = some (n, (vb n).length) := by
  unfold vget
  rw [vgo_vb 8 n 0 0 t (by simpa using h) (by omega) (fun h => absurd h (by omega))]
  simp

/-! ### fields one behind the other -/
inductive Fv where
  | num (n : Nat)
  | txt (s : List UInt8)
  | flag (b : Bool)
inductive Fk where
  | num | txt | flag
def Fv.bytes : Fv → List UInt8
  | .num n => vb n
  | .txt s => vb s.length ++ s
  | .flag b => [if b then 1 else 0]
/-- may it be put, and read again? (`most`: the longest text that is read.) -/
def Fv.ok (most : Nat) : Fv → Prop
  | .num n => n < 9223372036854775808
  | .txt s => s.length ≤ most
  | .flag _ => True
def Fv.kind : Fv → Fk
  | .num _ => .num
  | .txt _ => .txt
  | .flag _ => .flag
/-- a field at the head of bytes, and how many bytes it has. -/
def Fk.read (most : Nat) (l : List UInt8) : Fk → Option (Fv × Nat)
  | .num => (vget l).map fun p => (.num p.1, p.2)
  | .txt => match vget l with
    | none => none
    | some (n, k) => if n ≤ most ∧ n ≤ l.length - k then some (.txt ((l.drop k).take n), k + n) else none
  | .flag => match l with
    | [] => none
    | c :: _ => if c.toNat ≤ 1 then some (.flag (c == 1), 1) else none
theorem read_some {most : Nat} {l : List UInt8} {f : Fk} {v : Fv} {k : Nat} (h : f.read most l = some (v, k)) : v.kind = f ∧ v.ok most ∧ k ≤ l.length ∧ l.take k = v.bytes ∧ k = v.bytes.length ∧ 1 ≤ k := by
  cases f with
  | num =>
    unfold Fk.read at h
    rcases hv : vget l with _ | ⟨n, j⟩
    · rw [hv] at h; cases h
    · rw [hv] at h; cases h
      obtain ⟨h1, h2, h3, h4, h5⟩ := vget_some hv
      exact ⟨rfl, h4, h2, h3, h5, h1⟩
  | txt =>
    unfold Fk.read at h
    rcases hv : vget l with _ | ⟨n, j⟩
    · rw [hv] at h; cases h
    · rw [hv] at h
      simp only at h
      split at h
      · rename_i hc
        cases h
        obtain ⟨h1, h2, h3, h4, h5⟩ := vget_some hv
        have hl : ((l.drop j).take n).length = n := by rw [List.length_take, List.length_drop]; omega
        refine ⟨rfl, by show List.length _ ≤ _; omega, by omega, ?_, ?_, by omega⟩
        · show _ = vb _ ++ _
          rw [hl, List.take_add, h3]
        · show _ = (vb _ ++ _).length
          rw [hl, List.length_append, hl, ← h5]
      · cases h
  | flag =>
    unfold Fk.read at h
    cases l with
    | nil => cases h
    | cons c t =>
      simp only at h
      split at h
      · rename_i hc
        cases h
        refine ⟨rfl, trivial, by simp, ?_, rfl, Nat.le_refl _⟩
        show [c] = [if (c == 1) = true then 1 else 0]
        have h2 : c.toNat = 0 ∨ c.toNat = 1 := by omega
        rcases h2 with h2 | h2
        · have : c = 0 := UInt8.toNat_inj.1 h2
          subst this; rfl
        · have : c = 1 := UInt8.toNat_inj.1 h2
          subst this; rfl
      · cases h
theorem read_bytes {most : Nat} (v : Fv) (t : List UInt8) (h : v.ok most) (hm : most < 9223372036854775808) : v.kind.read most (v.bytes ++ t) = some (v, v.bytes.length) := by
  cases v with
  | num n =>
    show (vget (vb n ++ t)).map _ = _
    rw [vget_vb n t h]; rfl
  | txt s =>
    have h : s.length ≤ most := h
    show (match vget ((vb s.length ++ s) ++ t) with | none => none | some (n, k) => if n ≤ most ∧ n ≤ ((vb s.length ++ s) ++ t).length - k then some (Fv.txt ((((vb s.length ++ s) ++ t).drop k).take n), k + n) else none) = _
    rw [List.append_assoc, vget_vb s.length (s ++ t) (by omega)]
    simp only
    rw [if_pos ⟨h, by simp⟩]
    simp [Fv.bytes]
  | flag b => cases b <;> rfl

/-- kinds of fields, read one behind the other from a place on. -/
def reads (most : Nat) (l : List UInt8) : List Fk → Nat → Option (List Fv × Nat)
  | [], p => some ([], p)
  | f :: fs, p => match f.read most (l.drop p) with
    | none => none
    | some (v, k) => (reads most l fs (p + k)).map fun r => (v :: r.1, r.2)
def bytesOf (vs : List Fv) : List UInt8 := vs.flatMap Fv.bytes
theorem reads_some {most : Nat} {l : List UInt8} : ∀ (fs : List Fk) (p : Nat) (vs : List Fv) (q : Nat), reads most l fs p = some (vs, q) → p ≤ l.length → vs.map Fv.kind = fs ∧ (∀ v ∈ vs, v.ok most) ∧ p ≤ q ∧ q ≤ l.length ∧ (l.drop p).take (q - p) = bytesOf vs := by
  intro fs
  induction fs with
  | nil => intro p vs q h hp; cases h; exact ⟨rfl, by simp, Nat.le_refl _, hp, by simp [bytesOf]⟩
  | cons f fs ih =>
    intro p vs q h hp
    rw [reads] at h
    rcases hr : f.read most (l.drop p) with _ | ⟨v, k⟩
    · rw [hr] at h; cases h
    · rw [hr] at h
      simp only at h
      rcases hs : reads most l fs (p + k) with _ | ⟨ws, r⟩
      · rw [hs] at h; cases h
      · rw [hs] at h; cases h
        obtain ⟨h1, h2, h3, h4, h5, h6⟩ := read_some hr
        rw [List.length_drop] at h3
        obtain ⟨i1, i2, i3, i4, i5⟩ := ih (p + k) ws r hs (by omega)
        refine ⟨by rw [List.map_cons, h1, i1], ?_, by omega, i4, ?_⟩
        · intro x hx
          rcases List.mem_cons.1 hx with rfl | hx
          · exact h2
          · exact i2 x hx
        · show ((l.drop p).take (r - p)) = _
          rw [show r - p = k + (r - (p + k)) by omega, List.take_add, h4, List.drop_drop, i5]; rfl
theorem reads_bytes {most : Nat} (hm : most < 9223372036854775808) : ∀ (vs : List Fv) (a t : List UInt8), (∀ v ∈ vs, v.ok most) → reads most (a ++ (bytesOf vs ++ t)) (vs.map Fv.kind) a.length = some (vs, a.length + (bytesOf vs).length) := by
  intro vs
  induction vs with
  | nil => intro a t _; simp [reads, bytesOf]
  | cons v vs ih =>
    intro a t h
    have e : bytesOf (v :: vs) = v.bytes ++ bytesOf vs := rfl
    rw [List.map_cons, reads, List.drop_left, e, List.append_assoc, read_bytes v _ (h v (by simp)) hm]
    simp only
    have := ih (a ++ v.bytes) t (fun x hx => h x (by simp [hx]))
    rw [List.length_append, List.append_assoc] at this
    rw [this]
    simp [Nat.add_assoc]
end Go.Proofs.YtdgbpmbknlhgmaaGreatDoor.Vm
