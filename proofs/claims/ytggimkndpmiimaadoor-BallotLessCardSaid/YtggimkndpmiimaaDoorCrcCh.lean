/-
The walk through the law CrcChanges.
-/
import Derived.Test.YtggimkndpmiimaaDoorCrcLaws
import Derived.Test.YtggimkndpmiimaaDoorCrcChMath
import Derived.BigRegion
set_option linter.unusedVariables false
set_option linter.unusedSimpArgs false
namespace Go.Proofs.YtggimkndpmiimaaDoor
open Go.RowKit

theorem own_some {w : World} {base : Nat} {e : TypeId} {size n : Nat} {v : Value} {xs : List Value} (h : w.ownsRow base e size v n xs) (hn : 0 < n) :
    ∃ g c, v = .slice (some ⟨g, 0, none⟩) n c ∧ base ≤ g ∧ g < w.heap.size ∧ n ≤ c ∧ c ≤ maxLen := by
  have hlt := h.lt
  rcases h.2 with ⟨rfl, rfl⟩ | ⟨g, cap, cur, rfl, hb, _, hc, hm, _⟩
  · omega
  · exact ⟨g, cap, rfl, hb, (hlt g rfl).2, hc, hm⟩
theorem u8_xor (a b : UInt8) : bits .xor .u8 (a.toNat : Int) (b.toNat : Int) = ((a ^^^ b).toNat : Int) := by
  have ha := a.toNat_lt
  have hb := b.toNat_lt
  have ea : (BitVec.ofInt 8 (a.toNat : Int)).toNat = a.toNat := by rw [BitVec.ofInt_natCast, BitVec.toNat_ofNat]; exact Nat.mod_eq_of_lt ha
  have eb : (BitVec.ofInt 8 (b.toNat : Int)).toNat = b.toNat := by rw [BitVec.ofInt_natCast, BitVec.toNat_ofNat]; exact Nat.mod_eq_of_lt hb
  have hx : a.toNat ^^^ b.toNat < 2 ^ 8 := Nat.xor_lt_two_pow (by omega) (by omega)
  show IntKind.u8.wrap ((BitVec.ofInt 8 (a.toNat : Int) ^^^ BitVec.ofInt 8 (b.toNat : Int)).toNat : Int) = _
  rw [BitVec.toNat_xor, ea, eb, IntKind.wrap_u8, UInt8.toNat_xor]
  omega

def four (x0 x1 x2 x3 : UInt8) (j : Nat) : UInt8 := [x0, x1, x2, x3].getD j 0
theorem four_at (x0 x1 x2 x3 : UInt8) (j : Nat) (hj : j < 4) : (#[Value.int .u8 (x0.toNat : Int), .int .u8 (x1.toNat : Int), .int .u8 (x2.toNat : Int), .int .u8 (x3.toNat : Int)] : Array Value)[j]? = some (.int .u8 ((four x0 x1 x2 x3 j).toNat : Int)) := by
  match j, hj with
  | 0, _ => rfl
  | 1, _ => rfl
  | 2, _ => rfl
  | 3, _ => rfl

set_option maxHeartbeats 800000 in
theorem changes_calls (A : Option Addr) (n cap : Nat) (p : Int) (x0 x1 x2 x3 : UInt8) (l : List UInt8) (w : World) (hn : n ≤ 140737488351232) (hp : -9223372036854775808 ≤ p) (hp' : p ≤ 9223372036854775807) (hv : CrcVars w) (hl : BytesAt w A n l) :
    Calls Tryd.prog 5 #[.slice A n cap, .int .i64 p, .agg #[.int .u8 (x0.toNat : Int), .int .u8 (x1.toNat : Int), .int .u8 (x2.toNat : Int), .int .u8 (x3.toNat : Int)]] w fun e w' => e = .returned (.bool true) ∧ Below w.heap.size w w' := by
  have hv' := Lib.hid hv
  have hl' := Lib.hid hl
  clear hv hl
  have y1 : (isAgg 30).run Tryd.prog w = .ok true w := by kernel_rfl
  by_cases h1 : 2000 < n
  · go_enter Tryd.func5, Tryd.ntmps5
    go_wp2_with (go_at_call 9; refine (awake_calls _ (hv'.out.alloc _)).mono ?_; rintro e w' ⟨rfl, hb⟩)
    go_ret
    exact ⟨rfl, ((Below.refl _ _).alloc (Nat.le_refl _) _).trans (hb.mono (by simp))⟩
  by_cases h2 : p < 0
  · go_enter Tryd.func5, Tryd.ntmps5
    go_wp2_with (go_at_call 9; refine (awake_calls _ (hv'.out.alloc _)).mono ?_; rintro e w' ⟨rfl, hb⟩)
    go_ret
    exact ⟨rfl, ((Below.refl _ _).alloc (Nat.le_refl _) _).trans (hb.mono (by simp))⟩
  by_cases h3 : n ≤ p
  · go_enter Tryd.func5, Tryd.ntmps5
    go_wp2_with (go_at_call 9; refine (awake_calls _ (hv'.out.alloc _)).mono ?_; rintro e w' ⟨rfl, hb⟩)
    go_ret
    exact ⟨rfl, ((Below.refl _ _).alloc (Nat.le_refl _) _).trans (hb.mono (by simp))⟩
  obtain ⟨q, rfl⟩ := Int.eq_ofNat_of_zero_le (a := p) (by omega)
  have hq : q < n := by omega
  clear h3 hp hp' h2
  obtain ⟨i0, hi0, hz0, hz1, hz2⟩ := info_parts u8_info
  have own0 := own_new (w.alloc (.cells #[.int .u8 (x0.toNat : Int), .int .u8 (x1.toNat : Int), .int .u8 (x2.toNat : Int), .int .u8 (x3.toNat : Int)] 30)) 5
  rw [show (w.alloc (.cells #[.int .u8 (x0.toNat : Int), .int .u8 (x1.toNat : Int), .int .u8 (x2.toNat : Int), .int .u8 (x3.toNat : Int)] 30)).heap.size = w.heap.size + 1 by simp] at own0
  have rd0 : Reads ((w.alloc (.cells #[.int .u8 (x0.toNat : Int), .int .u8 (x1.toNat : Int), .int .u8 (x2.toNat : Int), .int .u8 (x3.toNat : Int)] 30)).alloc (.cells #[] 5)) w.heap.size 1 A n (l.map fun b => Value.int .u8 (b.toNat : Int)) :=
    Reads.alloc (Reads.alloc hl'.out (Nat.le_refl _) _) (by simp) _
  have own0 := Lib.hid own0
  have rd0 := Lib.hid rd0
  go_enter Tryd.func5, Tryd.ntmps5
  go_wp2_with (first
    | (at_builtin
       refine wpList_append_any _ rfl (.tmp 24) (.tmp 25) _ rfl (w.heap.size + 1) 5 i0 _ 1 1 Tryd.underlying22 hi0 hz0 hz1 hz2 rfl (by omega) (.slice (some ⟨w.heap.size + 1, 0, none⟩) 0 0) 0 [] rfl own0.out w.heap.size A n cap _ rfl rd0.out (bytes_one l) (by simp only [maxLen]; omega) (by omega) (by simp) ?_
       intro v1 w1 hown1 hg1 hat1))
  have hx1 : ∀ j, j < 4 → w1.cell? ⟨w.heap.size, j, none⟩ = some (.int .u8 ((four x0 x1 x2 x3 j).toNat : Int)) := fun j hj => by
    rw [World.cell?_of_block (w := (w.alloc (.cells #[.int .u8 (x0.toNat : Int), .int .u8 (x1.toNat : Int), .int .u8 (x2.toNat : Int), .int .u8 (x3.toNat : Int)] 30)).alloc (.cells #[] 5)) (hg1.block w.heap.size (by simp; omega) (by simp [Value.ownBlock]))]
    rw [World.cell?_alloc_lt _ _ _ (by simp), World.cell?_alloc_new]
    exact four_at x0 x1 x2 x3 j hj
  have hbw1 : Below w.heap.size w w1 := (((Below.refl _ _).alloc (Nat.le_refl _) _).alloc (by simp) _).grown hg1 (by simp; omega) (by simp [Value.ownBlock])
  have hsz1 : w.heap.size + 2 ≤ w1.heap.size := by have := hg1.size; simpa using this
  clear own0 rd0 hg1 hat1
  rw [Nat.zero_add, List.nil_append] at hown1
  obtain ⟨g, c, rfl, hg, hgs, hnc, hcm⟩ := own_some hown1 (by omega)
  generalize four x0 x1 x2 x3 = x at hx1
  have hll : l.length = n := hl'.out.len
  go_loopw [8, 9] (fun o i wr => ∃ k : Nat, k ≤ 4 ∧ q + k ≤ n ∧ i = .int .i64 k ∧ o = .bool (Crc.anyN x k) ∧ wr.ownsRow (w.heap.size + 1) 5 1 (.slice (some ⟨g, 0, none⟩) n c) n ((Crc.xorN l q x k).map fun b => Value.int .u8 (b.toNat : Int)) ∧ Below w.heap.size w wr ∧ ∀ j, j < 4 → wr.cell? ⟨w.heap.size, j, none⟩ = some (.int .u8 ((x j).toNat : Int))) (fun _ i _ => 4 - (intOf i).toNat)
  case atStart => exact ⟨0, by omega, by omega, rfl, rfl, hown1, hbw1, hx1⟩
  case round =>
    clear hown1 hbw1 hx1
    obtain ⟨k, hk4, hkn, rfl, rfl, hown, hbw, hx⟩ := hrel
    by_cases hgo : k < 4 ∧ q + k < n
    · obtain ⟨hk, hkl⟩ := hgo
      have cx := hx k hk
      have cl : wr.cell? ⟨g, q + k, none⟩ = some (.int .u8 (((Crc.xorN l q x k).getD (q + k) 0).toNat : Int)) := by
        rw [World.ownsRow.cellAt hown (q + k) (by omega), List.getElem?_map, List.getD_eq_getElem?_getD, List.getElem?_eq_getElem (by rw [Crc.xorN_length]; omega)]; rfl
      have fl := World.ownsRow.frozenAt hown (q + k)
      have hst := Lib.hid (World.ownsRow.stored hown (q + k) (.int .u8 (((Crc.xorN l q x k).getD (q + k) 0 ^^^ x k).toNat : Int)))
      have e1 := u8_xor ((Crc.xorN l q x k).getD (q + k) 0) (x k)
      have hnext : Hid (((Crc.xorN l q x k).map fun b => Value.int .u8 (b.toNat : Int)).set (q + k) (.int .u8 (((Crc.xorN l q x k).getD (q + k) 0 ^^^ x k).toNat : Int)) = (Crc.xorN l q x (k + 1)).map fun b => Value.int .u8 (b.toNat : Int)) := by
        show _ = _
        rw [Crc.xorN, List.map_set]
      have hany : Hid ((Crc.anyN x k || (((x k).toNat : Int) != 0)) = Crc.anyN x (k + 1)) := by
        show _ = _
        rw [Crc.anyN]; congr 1
        rw [Bool.eq_iff_iff, bne_iff_ne, bne_iff_ne]
        constructor
        · intro h h2; rw [h2] at h; exact h rfl
        · intro h h2; exact h (UInt8.toNat_inj.1 (by simpa using h2))
      have hbd := (x k).toNat_lt
      have hbe := ((Crc.xorN l q x k).getD (q + k) 0).toNat_lt
      have hown' := Lib.hid hown
      clear hown
      generalize (Crc.xorN l q x k).getD (q + k) 0 ^^^ x k = z at e1 hst hnext
      generalize (Crc.xorN l q x k).getD (q + k) 0 = d at e1 cl hbe
      obtain ⟨y, hy⟩ : ∃ y, y = (x k).toNat := ⟨_, rfl⟩
      rw [← hy] at cx e1 hany hbd
      have hy' := Lib.hid hy
      clear hy
      have hx' := Lib.hid hx
      clear hx
      obtain ⟨bo, ba, hcase⟩ : ∃ bo ba : Bool, Crc.anyN x k = bo ∧ Hid (Crc.anyN x (k + 1) = ba) ∧ ((bo = true ∧ ba = true) ∨ (bo = false ∧ ((y : Int) != 0) = ba)) := by
        cases hb : Crc.anyN x k
        · exact ⟨false, _, rfl, rfl, .inr ⟨rfl, by rw [← hany.out, hb]; rfl⟩⟩
        · exact ⟨true, _, rfl, rfl, .inl ⟨rfl, by rw [← hany.out, hb]; rfl⟩⟩
      obtain ⟨hb, hba, hcase⟩ := hcase
      rw [hb]
      clear hb hany
      rcases hcase with ⟨rfl, rfl⟩ | ⟨rfl, hz⟩
      · go_wp2
        go_region
        go_wp2
        go_roundw
        case rel => exact ⟨k + 1, by omega, by omega, by go_num, by rw [hba.out], by rw [← hnext.out]; exact hst.out.1, (Below.setCell hbw (by show _ ≤ g; omega) _).drew, fun j hj => (World.cell?_setCell_other _ _ _ _ (by intro e; injection e; omega)).trans (hx'.out j hj)⟩
        case measure => simp [intOf]; omega
      · cases ba
        all_goals
          go_wp2
          go_region
          go_wp2
          go_roundw
          case rel => exact ⟨k + 1, by omega, by omega, by go_num, by rw [hba.out], by rw [← hnext.out]; exact hst.out.1, (Below.setCell hbw (by show _ ≤ g; omega) _).drew, fun j hj => (World.cell?_setCell_other _ _ _ _ (by intro e; injection e; omega)).trans (hx'.out j hj)⟩
          case measure => simp [intOf]; omega
    · have hch := Crc.changes l q x k (by omega) hk4
      have hrd := own_form hown
      have H1 := Lib.hid (crcsum_calls A n cap l wr hn (hv'.out.below hbw).tab (hl'.out.below hbw))
      obtain ⟨C, c', hC, hrC⟩ := hrd
      injection hC with e1 e2 e3
      subst e1 e3
      have H2 := Lib.hid (crcsum_calls (some ⟨g, 0, none⟩) n c (Crc.xorN l q x k) wr hn (hv'.out.below hbw).tab hrC)
      have hbw' := Lib.hid hbw
      clear hown hbw hx hrC
      generalize Crc.sum l = s1 at H1 hch
      generalize Crc.sum (Crc.xorN l q x k) = s2 at H2 hch
      have hch' := Lib.hid hch
      clear hch
      have hexit : k = 4 ∨ (k < 4 ∧ q + k = n) := by omega
      rcases hexit with rfl | ⟨hk, hkn2⟩
      all_goals
        go_wp2_with fail
        refine H1.out.mono ?_
        rintro e w' ⟨rfl, rfl⟩
        go_wp2_with fail
        refine H2.out.mono ?_
        rintro e w' ⟨rfl, rfl⟩
        have hc2 := hch'.out
        go_wp2_with fail
        refine (awake_calls _ (hv'.out.below hbw'.out)).mono ?_
        rintro e w' ⟨rfl, hb3⟩
        go_wp2_with fail
        go_ret
        exact ⟨rfl, hbw'.out.trans (hb3.mono hbw'.out.size)⟩
end Go.Proofs.YtggimkndpmiimaaDoor
