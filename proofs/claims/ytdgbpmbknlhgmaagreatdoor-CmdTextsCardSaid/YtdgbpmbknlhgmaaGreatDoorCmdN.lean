/-
What is read of a command's bytes, in plain words: they lead back to it.
-/
import Derived.Test.YtdgbpmbknlhgmaaGreatDoorCmdM
set_option linter.unusedVariables false
set_option linter.unusedSimpArgs false
namespace Go.Proofs.YtdgbpmbknlhgmaaGreatDoor
open Go.RowKit Qt Vm

theorem cutC {l : List UInt8} {q k : Nat} {f : Fk} {v : Fv} (h : f.read 1048576 (l.drop q) = some (v, k)) : l.drop q = v.bytes ++ l.drop (q + k) := by
  obtain ⟨_, _, _, h4, _, _⟩ := read_some h
  rw [← h4, ← List.drop_drop, List.take_append_drop]
theorem pFv_put_ne (x : CX) (i j n : Nat) (t : List UInt8) (hi : i < 6) (hj : j < i) : pFv (x.put i n t) j = pFv x j := by
  match i, j, hi, hj with
  | 1, 0, _, _ => rfl
  | 2, 0, _, _ => rfl
  | 2, 1, _, _ => rfl
  | 3, 0, _, _ => rfl
  | 3, 1, _, _ => rfl
  | 3, 2, _, _ => rfl
  | 4, 0, _, _ => rfl
  | 4, 1, _, _ => rfl
  | 4, 2, _, _ => rfl
  | 4, 3, _, _ => rfl
  | 5, 0, _, _ => rfl
  | 5, 1, _, _ => rfl
  | 5, 2, _, _ => rfl
  | 5, 3, _, _ => rfl
  | 5, 4, _, _ => rfl
theorem pFv_put (x : CX) (i n : Nat) (t : List UInt8) (hi : i < 6) : pFv (x.put i n t) i = if isNumP i = true then .num n else .txt t := by
  match i, hi with
  | 0, _ => show Fv.num (n : Int).toNat = Fv.num n; rw [Int.toNat_natCast]
  | 1, _ => show Fv.num (n : Int).toNat = Fv.num n; rw [Int.toNat_natCast]
  | 2, _ => rfl
  | 3, _ => rfl
  | 4, _ => rfl
  | 5, _ => show Fv.num (n : Int).toNat = Fv.num n; rw [Int.toNat_natCast]
theorem putB_put (v : Int) (x : CX) (i n : Nat) (t : List UInt8) (hi : i < 6) : ∀ j, j ≤ i → putB v (x.put i n t) j = putB v x j
  | 0, _ => by rw [putB, putB, put_kind]
  | j + 1, h => by rw [putB, putB, put_kind, putB_put v x i n t hi j (by omega), pFv_put_ne x i j n t hi (by omega)]
/-- what was read has these bytes. -/
theorem getX_bytes (v : Int) (l : List UInt8) : ∀ k, k ≤ 6 → ∀ q, (getX v l (some 0) k).2 = some q → l = putB v (getX v l (some 0) k).1 k ++ l.drop q
  | 0, _, q, h => by
    obtain ⟨q0, kk, n, e0, hr, hq, hn⟩ := num_next (st := some 0) h
    injection e0 with e0
    subst e0
    have c := cutC hr
    rw [List.drop_zero, Nat.zero_add] at c
    rw [Nat.zero_add] at hq
    subst hq
    have e : putB v (getX v l (some 0) 0).1 0 = vb n := by
      show vb ((valN (numX l (some 0)) : Int)).toNat = vb n
      rw [Int.toNat_natCast, hn]
    rw [e]; exact c
  | k + 1, hk, q, h => by
    have ih := getX_bytes v l k (by omega)
    have hkd := getX_kind v l (some 0) k
    rw [getX] at h ⊢
    by_cases hw : wantB k v (valN (numX l (some 0)) : Int) = true
    · rw [if_pos hw] at h ⊢
      generalize getX v l (some 0) k = s at *
      obtain ⟨x, st⟩ := s
      unfold rdX at h ⊢
      have hw2 : ∀ n t, wantB k v ((x.put k n t).kind) = true := fun n t => by rw [put_kind, hkd]; exact hw
      by_cases hn : isNumP k = true
      · rw [if_pos hn] at h ⊢
        obtain ⟨q0, kk, n, e0, hr, hq, hv⟩ := num_next h
        have c := cutC hr
        have i := ih q0 e0
        simp only at hv ⊢
        rw [hv, putB, if_pos (hw2 _ _), putB_put v x k n [] (by omega) k (Nat.le_refl _), pFv_put x k n [] (by omega), if_pos hn, List.append_assoc, hq, ← c]
        exact i
      · rw [if_neg hn] at h ⊢
        obtain ⟨q0, kk, t, e0, hr, hq, hv⟩ := txt_next h
        have c := cutC hr
        have i := ih q0 e0
        simp only at hv ⊢
        rw [hv, putB, if_pos (hw2 _ _), putB_put v x k 0 t (by omega) k (Nat.le_refl _), pFv_put x k 0 t (by omega), if_neg hn, List.append_assoc, hq, ← c]
        exact i
    · rw [if_neg hw] at h ⊢
      rw [putB, hkd, if_neg hw]
      exact ih q h
theorem getC_bytes {v : Int} {l : List UInt8} (h : (getC v l).2 = some l.length) : putB v (getC v l).1 6 = l := by
  have := getX_bytes v l 6 (Nat.le_refl _) _ h
  rw [List.drop_length, List.append_nil] at this
  exact this.symm

/-! ### the way back -/
def numOf (x : CX) : Nat → Nat
  | 0 => x.client.toNat
  | 1 => x.seq.toNat
  | 2 => 0
  | 3 => 0
  | 4 => 0
  | _ => x.node.toNat
def txtOf (x : CX) : Nat → List UInt8
  | 0 => []
  | 1 => []
  | 2 => x.key
  | 3 => x.old
  | 4 => x.val
  | _ => []
theorem pFv_of (x : CX) (i : Nat) (hi : i < 6) : pFv x i = if isNumP i = true then .num (numOf x i) else .txt (txtOf x i) := by
  match i, hi with
  | 0, _ | 1, _ | 2, _ | 3, _ | 4, _ | 5, _ => rfl
/-- a command of which only the fields of a version's bytes are kept. -/
def keepX (v : Int) (x : CX) : Nat → CX
  | 0 => ⟨x.kind, 0, 0, [], [], [], 0⟩
  | k + 1 => if wantB k v x.kind = true then (keepX v x k).put k (numOf x k) (txtOf x k) else keepX v x k
theorem keepX_kind (v : Int) (x : CX) : ∀ k, (keepX v x k).kind = x.kind
  | 0 => rfl
  | k + 1 => by
    rw [keepX]
    split
    · rw [put_kind]; exact keepX_kind v x k
    · exact keepX_kind v x k
theorem putB_split (v : Int) (x : CX) (k : Nat) : ∀ j, ∃ t, putB v x (k + j) = putB v x k ++ t
  | 0 => ⟨[], by simp⟩
  | j + 1 => by
    obtain ⟨t, h⟩ := putB_split v x k j
    rw [show k + (j + 1) = k + j + 1 by omega, putB]
    split
    · exact ⟨t ++ (pFv x (k + j)).bytes, by rw [h, List.append_assoc]⟩
    · exact ⟨t, h⟩
theorem putB_drop (v : Int) (x : CX) (k : Nat) (hk : k ≤ 6) : ∃ t, (putB v x 6).drop (putB v x k).length = t ∧ putB v x 6 = putB v x k ++ t := by
  obtain ⟨t, h⟩ := putB_split v x k (6 - k)
  rw [show k + (6 - k) = 6 by omega] at h
  exact ⟨t, by rw [h, List.drop_left], h⟩
theorem put_same (x : CX) (i n m : Nat) (t u : List UInt8) (hi : i < 6) (hn : isNumP i = true → n = m) (ht : isNumP i ≠ true → t = u) : x.put i n t = x.put i m u := by
  match i, hi with
  | 0, _ => rw [hn rfl]; rfl
  | 1, _ => rw [hn rfl]; rfl
  | 2, _ => rw [ht (by decide)]; rfl
  | 3, _ => rw [ht (by decide)]; rfl
  | 4, _ => rw [ht (by decide)]; rfl
  | 5, _ => rw [hn rfl]; rfl
theorem numOf_lt {x : CX} (hn : x.nat) (i : Nat) : numOf x i < 9223372036854775808 := by
  obtain ⟨h0, h1, h2, h3⟩ := hn
  match i with
  | 0 => show x.client.toNat < _; omega
  | 1 => show x.seq.toNat < _; omega
  | 2 | 3 | 4 => exact (by decide : (0 : Nat) < 9223372036854775808)
  | i + 5 => show x.node.toNat < _; omega
theorem txtOf_le {x : CX} (ht : x.tiny) (i : Nat) : (txtOf x i).length ≤ 90000 := by
  obtain ⟨h1, h2, h3⟩ := ht
  match i with
  | 0 | 1 => exact Nat.zero_le _
  | 2 => exact h1
  | 3 => exact h3
  | 4 => exact h2
  | i + 5 => exact Nat.zero_le _
theorem getX_of (v : Int) {x : CX} (hn : x.nat) (ht : x.tiny) : ∀ k, k ≤ 6 → getX v (putB v x 6) (some 0) k = (keepX v x k, some (putB v x k).length)
  | 0, _ => by
    obtain ⟨t, h1, h2⟩ := putB_drop v x 0 (by omega)
    have h0 : (putB v x 6).drop 0 = vb x.kind.toNat ++ t := by rw [List.drop_zero, h2]; rfl
    obtain ⟨a, b⟩ := num_goes h0 (by have := hn.1; omega)
    rw [getX, a, b, keepX, Nat.zero_add, Int.toNat_of_nonneg hn.1.1]
    rfl
  | k + 1, hk => by
    have ih := getX_of v hn ht k (by omega)
    obtain ⟨t0, g1, g2⟩ := putB_drop v x 0 (by omega)
    have h0 : (putB v x 6).drop 0 = vb x.kind.toNat ++ t0 := by rw [List.drop_zero, g2]; rfl
    obtain ⟨_, hkd⟩ := num_goes h0 (by have := hn.1; omega)
    rw [getX, ih, hkd, Int.toNat_of_nonneg hn.1.1, keepX]
    by_cases hw : wantB k v x.kind = true
    · rw [if_pos hw, if_pos hw]
      obtain ⟨t, h1, h2⟩ := putB_drop v x (k + 1) hk
      have e : putB v x (k + 1) = putB v x k ++ (pFv x k).bytes := by rw [putB, if_pos hw]
      have hd : (putB v x 6).drop (putB v x k).length = (pFv x k).bytes ++ t := by
        rw [h2, e, List.append_assoc, List.drop_left]
      have hl : (putB v x (k + 1)).length = (putB v x k).length + (pFv x k).bytes.length := by rw [e, List.length_append]
      rw [pFv_of x k (by omega)] at hd hl
      unfold rdX
      by_cases hN : isNumP k = true
      · rw [if_pos hN] at hd hl ⊢
        obtain ⟨a, b⟩ := num_goes hd (numOf_lt hn k)
        simp only
        rw [a, b, hl]
        exact Prod.ext (put_same _ _ _ _ _ _ (by omega) (fun _ => rfl) (fun h => absurd hN h)) rfl
      · rw [if_neg hN] at hd hl ⊢
        obtain ⟨a, b⟩ := txt_goes hd (txtOf_le ht k)
        simp only
        rw [a, b, hl]
        exact Prod.ext (put_same _ _ _ _ _ _ (by omega) (fun h => absurd h hN) (fun _ => rfl)) rfl
    · rw [if_neg hw, if_neg hw, putB, if_neg hw]
theorem getC_of (v : Int) {x : CX} (hn : x.nat) (ht : x.tiny) : getC v (putB v x 6) = (keepX v x 6, some (putB v x 6).length) := getX_of v hn ht 6 (Nat.le_refl _)
theorem kind_cases {k : Int} (h : 1 ≤ k ∧ k ≤ 8) : k = 1 ∨ k = 2 ∨ k = 3 ∨ k = 4 ∨ k = 5 ∨ k = 6 ∨ k = 7 ∨ k = 8 := by omega
theorem want_one (k : Nat) (kd : Int) : wantB k 1 kd = (pHas k != 4) := rfl
/-- in the first version all fields are kept but one. -/
theorem keep_one {x : CX} (hn : x.nat) (ho : x.old = []) : keepX 1 x 6 = x := by
  obtain ⟨kd, cl, sq, ky, vl, od, nd⟩ := x
  obtain ⟨h0, h1, h2, h3⟩ := hn
  simp only at ho h1 h2 h3
  subst ho
  simp only [keepX, want_one, pHas]
  simp only [(by decide : ((1 : Int) != 4) = true), (by decide : ((2 : Int) != 4) = true), (by decide : ((4 : Int) != 4) = false), (by decide : ((8 : Int) != 4) = true), (by decide : ((16 : Int) != 4) = true), if_true, Bool.false_eq_true, if_false]
  simp only [CX.put, numOf, txtOf, Int.toNat_of_nonneg h1.1, Int.toNat_of_nonneg h2.1, Int.toNat_of_nonneg h3.1]
theorem want_two (k : Nat) (kd : Int) : wantB k 2 kd = hasB kd k := rfl
theorem keep_step {v : Int} {x : CX} {k : Nat} {y z : CX} (hy : keepX v x k = y) (h1 : wantB k v x.kind = true → y.put k (numOf x k) (txtOf x k) = z) (h2 : wantB k v x.kind = false → y = z) : keepX v x (k + 1) = z := by
  rw [keepX, hy]
  split
  · rename_i h; exact h1 h
  · rename_i h; exact h2 (by cases hw : wantB k v x.kind <;> simp_all)
theorem NumIs.no {h : Bool} {most n : Int} (k : NumIs h most n) (e : h = false) : n = 0 := by
  subst e
  unfold NumIs at k
  rw [if_neg Bool.false_ne_true] at k
  exact k
theorem TxtIs.no {h : Bool} {is : List UInt8 → Bool} {l : List UInt8} (k : TxtIs h is l) (e : h = false) : l = [] := by
  subst e
  unfold TxtIs at k
  rw [if_neg Bool.false_ne_true] at k
  exact k
/-- a command that may be is kept whole. -/
theorem keep_ok {v : Int} {x : CX} (h : x.Ok) (hv : v = 1 ∨ v = 2) (hh : vhasB v x.kind = true) : keepX v x 6 = x := by
  rcases hv with rfl | rfl
  · refine keep_one h.nat ?_
    have h5 : x.kind ≠ 5 := by
      intro e
      rw [e] at hh
      exact absurd hh (by decide)
    have h3 : hasB x.kind 3 = false := by
      rcases kind_cases h.kind with e | e | e | e | e | e | e | e
      all_goals first | exact absurd e h5 | (rw [e]; decide)
    exact h.old.no h3
  · have n1 := h.client
    have n2 := h.seq
    have n3 := h.node
    have t1 := h.key
    have t2 := h.old
    have t3 := h.val
    have b1 := (n1.le (by omega)).1
    have b2 := (n2.le (by omega)).1
    have b3 := (n3.le (by omega)).1
    obtain ⟨kd, cl, sq, ky, vl, od, nd⟩ := x
    simp only at n1 n2 n3 t1 t2 t3 b1 b2 b3
    have k0 : keepX 2 ⟨kd, cl, sq, ky, vl, od, nd⟩ 0 = ⟨kd, 0, 0, [], [], [], 0⟩ := rfl
    have k1 : keepX 2 ⟨kd, cl, sq, ky, vl, od, nd⟩ 1 = ⟨kd, cl, 0, [], [], [], 0⟩ := keep_step k0 (fun _ => by simp only [CX.put, numOf, Int.toNat_of_nonneg b1]) (fun e => by rw [n1.no e])
    have k2 : keepX 2 ⟨kd, cl, sq, ky, vl, od, nd⟩ 2 = ⟨kd, cl, sq, [], [], [], 0⟩ := keep_step k1 (fun _ => by simp only [CX.put, numOf, Int.toNat_of_nonneg b2]) (fun e => by rw [n2.no e])
    have k3 : keepX 2 ⟨kd, cl, sq, ky, vl, od, nd⟩ 3 = ⟨kd, cl, sq, ky, [], [], 0⟩ := keep_step k2 (fun _ => rfl) (fun e => by rw [t1.no e])
    have k4 : keepX 2 ⟨kd, cl, sq, ky, vl, od, nd⟩ 4 = ⟨kd, cl, sq, ky, [], od, 0⟩ := keep_step k3 (fun _ => rfl) (fun e => by rw [t2.no e])
    have k5 : keepX 2 ⟨kd, cl, sq, ky, vl, od, nd⟩ 5 = ⟨kd, cl, sq, ky, vl, od, 0⟩ := keep_step k4 (fun _ => rfl) (fun e => by rw [t3.no e])
    exact keep_step k5 (fun _ => by simp only [CX.put, numOf, Int.toNat_of_nonneg b3]) (fun e => by rw [n3.no e])
end Go.Proofs.YtdgbpmbknlhgmaaGreatDoor
