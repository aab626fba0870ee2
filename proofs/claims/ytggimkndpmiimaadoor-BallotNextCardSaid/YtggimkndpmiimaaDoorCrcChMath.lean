/-
Plain lists: up to four bytes of a text, one behind the other, changed one after another.
-/
import Derived.Test.YtggimkndpmiimaaDoorCrcMath
set_option linter.unusedVariables false
set_option linter.unusedSimpArgs false
namespace Go.Proofs.YtggimkndpmiimaaDoor.Crc

def xorN (l : List UInt8) (p : Nat) (x : Nat → UInt8) : Nat → List UInt8
  | 0 => l
  | i + 1 => (xorN l p x i).set (p + i) ((xorN l p x i).getD (p + i) 0 ^^^ x i)
def anyN (x : Nat → UInt8) : Nat → Bool
  | 0 => false
  | i + 1 => anyN x i || (x i != 0)
def was (l : List UInt8) (p : Nat) : Nat → List UInt8
  | 0 => []
  | i + 1 => was l p i ++ [l.getD (p + i) 0]
def now (l : List UInt8) (p : Nat) (x : Nat → UInt8) : Nat → List UInt8
  | 0 => []
  | i + 1 => now l p x i ++ [l.getD (p + i) 0 ^^^ x i]
theorem was_length (l : List UInt8) (p i : Nat) : (was l p i).length = i := by
  induction i with
  | zero => rfl
  | succ i ih => simp [was, ih]
theorem now_length (l : List UInt8) (p : Nat) (x : Nat → UInt8) (i : Nat) : (now l p x i).length = i := by
  induction i with
  | zero => rfl
  | succ i ih => simp [now, ih]
theorem xorN_length (l : List UInt8) (p : Nat) (x : Nat → UInt8) (i : Nat) : (xorN l p x i).length = l.length := by
  induction i with
  | zero => rfl
  | succ i ih => simp [xorN, ih]
theorem drop_getD (l : List UInt8) (k : Nat) (h : k < l.length) : l.drop k = l.getD k 0 :: l.drop (k + 1) := by
  rw [List.drop_eq_getElem_cons h, List.getD_eq_getElem?_getD, List.getElem?_eq_getElem h]; rfl
theorem was_split (l : List UInt8) (p : Nat) : ∀ i, p + i ≤ l.length → l = l.take p ++ was l p i ++ l.drop (p + i) := by
  intro i
  induction i with
  | zero => intro h; simp [was]
  | succ i ih =>
    intro h
    have h1 := ih (by omega)
    rw [drop_getD l (p + i) (by omega)] at h1
    simp only [was]
    conv => lhs; rw [h1]
    simp [Nat.add_assoc]
theorem xorN_split (l : List UInt8) (p : Nat) (x : Nat → UInt8) : ∀ i, p + i ≤ l.length → xorN l p x i = l.take p ++ now l p x i ++ l.drop (p + i) := by
  intro i
  induction i with
  | zero => intro h; simp [now, xorN]
  | succ i ih =>
    intro h
    have h1 := ih (by omega)
    rw [drop_getD l (p + i) (by omega)] at h1
    have hlen : (l.take p ++ now l p x i).length = p + i := by rw [List.length_append, List.length_take, now_length]; omega
    have hg : (xorN l p x i).getD (p + i) 0 = l.getD (p + i) 0 := by
      rw [h1, List.getD_eq_getElem?_getD, List.getElem?_append_right (by omega), hlen, Nat.sub_self]; rfl
    simp only [xorN, now]
    rw [hg]
    conv => lhs; rw [h1]
    rw [List.set_append_right _ _ (by omega), hlen, Nat.sub_self]
    simp [Nat.add_assoc]
theorem xor_eq_self (a b : UInt8) : (a ^^^ b = a) ↔ b = 0 := by
  constructor
  · intro h
    have h2 := congrArg UInt8.toNat h
    rw [UInt8.toNat_xor] at h2
    have h3 : (a.toNat ^^^ b.toNat) ^^^ a.toNat = a.toNat ^^^ a.toNat := by rw [h2]
    rw [Nat.xor_self, Nat.xor_comm, ← Nat.xor_assoc, Nat.xor_self] at h3
    apply UInt8.toNat_inj.1
    simpa using h3
  · rintro rfl; simp
theorem now_was (l : List UInt8) (p : Nat) (x : Nat → UInt8) : ∀ i, now l p x i = was l p i ↔ anyN x i = false := by
  intro i
  induction i with
  | zero => simp [now, was, anyN]
  | succ i ih =>
    simp only [now, was, anyN]
    constructor
    · intro h
      obtain ⟨h1, h2⟩ := List.append_inj h (by rw [now_length, was_length])
      have h3 := (xor_eq_self _ _).1 (List.cons.inj h2).1
      rw [ih.1 h1, h3]; rfl
    · intro h
      rw [Bool.or_eq_false_iff] at h
      have h3 : x i = 0 := by simpa using h.2
      rw [ih.2 h.1, h3]; simp
/-- P2.3 for the changed text. -/
theorem changes (l : List UInt8) (p : Nat) (x : Nat → UInt8) (i : Nat) (h : p + i ≤ l.length) (h4 : i ≤ 4) : (((sum l : Nat) : Int) != ((sum (xorN l p x i) : Nat) : Int)) = anyN x i := by
  have e1 := was_split l p i h
  have e2 := xorN_split l p x i h
  have h1 := sum_ne_iff (l.take p) (was l p i) (now l p x i) (l.drop (p + i)) (by rw [was_length, now_length]) (by rw [was_length]; exact h4)
  rw [← e1, ← e2] at h1
  have h2 := now_was l p x i
  cases hx : anyN x i
  · have : sum l = sum (xorN l p x i) := h1.2 (h2.2 hx).symm
    rw [this]; simp
  · rw [bne_iff_ne]
    intro he
    have := h2.1 (h1.1 (by exact_mod_cast he)).symm
    rw [hx] at this; cases this
end Go.Proofs.YtggimkndpmiimaaDoor.Crc
