/-
What a command that may be is like, in plain words.
-/
import Derived.Test.YtdgbpmbknlhgmaaGreatDoorCmdB
set_option linter.unusedVariables false
set_option linter.unusedSimpArgs false
namespace Go.Proofs.YtdgbpmbknlhgmaaGreatDoor
open Go.RowKit Qt

/-- has a kind a field? -/
def hasB (k : Int) (i : Nat) : Bool := bits .and .i64 (fieldsI k) (pHas i) != 0
theorem hasB_not (k : Int) (i : Nat) : (bits .and .i64 (fieldsI k) (pHas i) == 0) = !hasB k i := by unfold hasB bne; rw [Bool.not_not]
theorem numOk_iff (has most n f : Int) : (numOk has most n f && numF has n f) = true ↔ if (bits .and .i64 f has == 0) = true then n = 0 else 1 ≤ n ∧ n ≤ most := by
  unfold numOk numF
  cases (bits .and .i64 f has == 0)
  · simp
  · simp
theorem txtOk_iff (has : Int) (is : List UInt8 → Bool) (l : List UInt8) (f : Int) : (txtOk has is l f && txtF has l f) = true ↔ if (bits .and .i64 f has == 0) = true then l = [] else is l = true := by
  unfold txtOk txtF
  cases (bits .and .i64 f has == 0)
  · simp
  · simp
/-- a number's field. -/
def NumIs (h : Bool) (most n : Int) : Prop := if h = true then 1 ≤ n ∧ n ≤ most else n = 0
def TxtIs (h : Bool) (is : List UInt8 → Bool) (l : List UInt8) : Prop := if h = true then is l = true else l = []
structure CX.Ok (x : CX) : Prop where
  kind : 1 ≤ x.kind ∧ x.kind ≤ 8
  client : NumIs (hasB x.kind 0) 8 x.client
  seq : NumIs (hasB x.kind 1) 4294967296 x.seq
  key : TxtIs (hasB x.kind 2) isKey x.key
  old : TxtIs (hasB x.kind 3) isVal x.old
  val : TxtIs (hasB x.kind 4) isVal x.val
  node : NumIs (hasB x.kind 5) 9 x.node
theorem kindOk_iff (k : Int) : kindOk k = true ↔ 1 ≤ k ∧ k ≤ 8 := by
  unfold kindOk
  rw [Bool.and_eq_true, decide_eq_true_iff, decide_eq_true_iff]
theorem kindOk_no {k : Int} (h : k < 1 ∨ 8 < k) : kindOk k = false := by
  cases hk : kindOk k
  · rfl
  · have := (kindOk_iff k).1 hk; omega
theorem andTo_iff (p : Nat → Bool) : ∀ k, andTo p k = true ↔ ∀ i, i < k → p i = true
  | 0 => by simp [andTo]
  | k + 1 => by
    rw [andTo, Bool.and_eq_true, andTo_iff p k]
    constructor
    · rintro ⟨h1, h2⟩ i hi
      rcases Nat.lt_succ_iff_lt_or_eq.1 hi with h | rfl
      · exact h1 i h
      · exact h2
    · exact fun h => ⟨fun i hi => h i (by omega), h k (by omega)⟩
theorem cmd_ok {x : CX} (h : cmdE x = 0) : x.Ok := by
  unfold cmdE at h
  cases hk : kindOk x.kind
  · rw [hk] at h; simp at h
  rw [hk, if_pos rfl] at h
  cases h1 : andTo (nOk x (fieldsI x.kind)) 6
  · rw [h1] at h; simp at h
  rw [h1, if_pos rfl] at h
  cases h2 : andTo (tOk x (fieldsI x.kind)) 6
  · rw [h2] at h; simp at h
  rw [h2, if_pos rfl] at h
  cases h3 : andTo (fun i => nF x (fieldsI x.kind) i && tF x (fieldsI x.kind) i) 6
  · rw [h3] at h; simp at h
  have a := (andTo_iff _ _).1 h1
  have b := (andTo_iff _ _).1 h2
  have c := (andTo_iff _ _).1 h3
  have n : ∀ i, i < 6 → (nOk x (fieldsI x.kind) i && nF x (fieldsI x.kind) i) = true := fun i hi => by
    have := c i hi
    simp only [Bool.and_eq_true] at this ⊢
    exact ⟨a i hi, this.1⟩
  have t : ∀ i, i < 6 → (tOk x (fieldsI x.kind) i && tF x (fieldsI x.kind) i) = true := fun i hi => by
    have := c i hi
    simp only [Bool.and_eq_true] at this ⊢
    exact ⟨b i hi, this.2⟩
  have N : ∀ (i : Nat) (most m : Int), (numOk (pHas i) most m (fieldsI x.kind) && numF (pHas i) m (fieldsI x.kind)) = true → NumIs (hasB x.kind i) most m := fun i most m h => by
    have h := (numOk_iff _ _ _ _).1 h
    rw [hasB_not] at h
    unfold NumIs
    cases hb : hasB x.kind i
    · rw [hb] at h; simpa using h
    · rw [hb] at h; simpa using h
  have T : ∀ (i : Nat) (is : List UInt8 → Bool) (l : List UInt8), (txtOk (pHas i) is l (fieldsI x.kind) && txtF (pHas i) l (fieldsI x.kind)) = true → TxtIs (hasB x.kind i) is l := fun i is l h => by
    have h := (txtOk_iff _ _ _ _).1 h
    rw [hasB_not] at h
    unfold TxtIs
    cases hb : hasB x.kind i
    · rw [hb] at h; simpa using h
    · rw [hb] at h; simpa using h
  exact ⟨(kindOk_iff _).1 hk, N 0 _ _ (n 0 (by omega)), N 1 _ _ (n 1 (by omega)), T 2 _ _ (t 2 (by omega)), T 3 _ _ (t 3 (by omega)), T 4 _ _ (t 4 (by omega)), N 5 _ _ (n 5 (by omega))⟩
theorem NumIs.le {h : Bool} {most n : Int} (k : NumIs h most n) (hm : 0 ≤ most) : 0 ≤ n ∧ n ≤ most := by
  unfold NumIs at k
  split at k
  · omega
  · omega
theorem isKey_len {l : List UInt8} (h : isKey l = true) : l.length ≤ 24 := by
  unfold isKey at h
  simp only [Bool.and_eq_true, decide_eq_true_eq] at h
  omega
theorem TxtIs.key {h : Bool} {l : List UInt8} (k : TxtIs h isKey l) : l.length ≤ 48 := by
  unfold TxtIs at k
  split at k
  · have := isKey_len k; omega
  · subst k; simp
theorem isVal_le {l : List UInt8} (h : isVal l = true) : l.length ≤ 48 := by
  unfold isVal at h
  by_cases h1 : l.length ≤ 48
  · exact h1
  · rw [decide_eq_false h1] at h; cases h
theorem TxtIs.val {h : Bool} {l : List UInt8} (k : TxtIs h isVal l) : l.length ≤ 48 := by
  unfold TxtIs at k
  split at k
  · exact isVal_le k
  · subst k; simp
theorem CX.Ok.small {x : CX} (h : x.Ok) : x.key.length ≤ 48 ∧ x.old.length ≤ 48 ∧ x.val.length ≤ 48 := ⟨h.key.key, h.old.val, h.val.val⟩
theorem hasB_want (k : Int) (i : Nat) : hasB k i = (if (2 : Int) = 1 then pHas i != 4 else bits .and .i64 (fieldsI k) (pHas i) != 0) := rfl
end Go.Proofs.YtdgbpmbknlhgmaaGreatDoor
