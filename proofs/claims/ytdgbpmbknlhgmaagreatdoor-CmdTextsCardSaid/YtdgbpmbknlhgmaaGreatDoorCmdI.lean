/-
The walks through vers.Has, cmd.Put, cmd.has, cmd.Encode; what a command that may be is like, in plain words.
-/
import Derived.Test.YtdgbpmbknlhgmaaGreatDoorCmdH
import Derived.Test.YtdgbpmbknlhgmaaGreatDoorCmdOk
import Derived.Test.YtdgbpmbknlhgmaaGreatDoorAnsB
set_option linter.unusedVariables false
set_option linter.unusedSimpArgs false
namespace Go.Proofs.YtdgbpmbknlhgmaaGreatDoor
open Go.RowKit Qt Vm

/-- a version has a kind. -/
def vhasB (v k : Int) : Bool := decide (v = 1 ∨ v = 2) && (kindOk k && (k != 5 || v == 2))
set_option maxHeartbeats 1000000 in
theorem vhas_calls (v k : Int) (w : World) :
    Calls Tryz.prog 75 #[.int .i64 v, .int .i64 k] w fun e w' => e = .returned (.bool (vhasB v k)) ∧ w = w' := by
  by_cases hv : v = 1 ∨ v = 2
  · have HM : ∀ w, Calls Tryz.prog 34 #[.int .i64 v] w fun e w' => e = .returned (.bool true) ∧ w = w' := by
      have := may_calls v
      rw [decide_eq_true hv] at this
      exact this
    have HM := Lib.hid HM
    have hc : k = 1 ∨ k = 2 ∨ k = 3 ∨ k = 4 ∨ k = 5 ∨ k = 6 ∨ k = 7 ∨ k = 8 ∨ (k < 1 ∨ 8 < k) := by omega
    rcases hv with rfl | rfl
    all_goals
      rcases hc with rfl | rfl | rfl | rfl | rfl | rfl | rfl | rfl | hk
      iterate 8
        · go_enter Tryz.func75, Tryz.ntmps75
          go_wp2_with (fail)
          refine (HM.out _).mono ?_
          rintro e w1 ⟨rfl, rfl⟩
          go_wp2
          go_ret
          exact ⟨rfl, rfl⟩
      have h3 : Hid (∀ v, vhasB v k = false) := by
        show ∀ v, _
        intro v
        unfold vhasB
        rw [kindOk_no hk, Bool.false_and, Bool.and_false]
      have n1 : (k == 1) = false := beq_eq_false_iff_ne.2 (by omega)
      have n2 : (k == 2) = false := beq_eq_false_iff_ne.2 (by omega)
      have n3 : (k == 3) = false := beq_eq_false_iff_ne.2 (by omega)
      have n4 : (k == 4) = false := beq_eq_false_iff_ne.2 (by omega)
      have n5 : (k == 5) = false := beq_eq_false_iff_ne.2 (by omega)
      have n6 : (k == 6) = false := beq_eq_false_iff_ne.2 (by omega)
      have n7 : (k == 7) = false := beq_eq_false_iff_ne.2 (by omega)
      have n8 : (k == 8) = false := beq_eq_false_iff_ne.2 (by omega)
      clear hk
      go_enter Tryz.func75, Tryz.ntmps75
      go_wp2_with (fail)
      refine (HM.out _).mono ?_
      rintro e w1 ⟨rfl, rfl⟩
      go_wp2
      go_ret
      exact ⟨ret_bool (h3.out _).symm, rfl⟩
  · have HM : ∀ w, Calls Tryz.prog 34 #[.int .i64 v] w fun e w' => e = .returned (.bool false) ∧ w = w' := by
      have := may_calls v
      rw [decide_eq_false hv] at this
      exact this
    have HM := Lib.hid HM
    have h3 : Hid (vhasB v k = false) := by show _ = _; unfold vhasB; rw [decide_eq_false hv, Bool.false_and]
    clear hv
    go_enter Tryz.func75, Tryz.ntmps75
    go_wp2_with (fail)
    refine (HM.out _).mono ?_
    rintro e w1 ⟨rfl, rfl⟩
    go_wp2
    go_ret
    exact ⟨ret_bool h3.out.symm, rfl⟩

/-- a command's bytes, so far. -/
def putB (v : Int) (x : CX) : Nat → List UInt8
  | 0 => vb x.kind.toNat
  | k + 1 => if wantB k v x.kind = true then putB v x k ++ (pFv x k).bytes else putB v x k
theorem pFv_len {x : CX} (hn : x.nat) (ht : x.tiny) (i : Nat) (hi : i < 6) : (pFv x i).bytes.length ≤ 90009 := by
  obtain ⟨⟨n0, n0'⟩, ⟨n1, n1'⟩, ⟨n2, n2'⟩, ⟨n3, n3'⟩⟩ := hn
  obtain ⟨t1, t2, t3⟩ := ht
  have hN : ∀ n : Int, 0 ≤ n → n < 9223372036854775808 → (Fv.num n.toNat).bytes.length ≤ 90009 := fun n h1 h2 => by
    have := vb_len9 (n := n.toNat) (by omega)
    show (vb n.toNat).length ≤ _
    omega
  have hT : ∀ l : List UInt8, l.length ≤ 90000 → (Fv.txt l).bytes.length ≤ 90009 := fun l h => by
    have a := vb_len9 (n := l.length) (by omega)
    have b : (Fv.txt l).bytes.length = (vb l.length).length + l.length := by simp [Fv.bytes]
    omega
  match i, hi with
  | 0, _ => exact hN _ n1 n1'
  | 1, _ => exact hN _ n2 n2'
  | 2, _ => exact hT _ t1
  | 3, _ => exact hT _ t3
  | 4, _ => exact hT _ t2
  | 5, _ => exact hN _ n3 n3'
theorem putB_len {v : Int} {x : CX} (hn : x.nat) (ht : x.tiny) : ∀ k, k ≤ 6 → (putB v x k).length ≤ 9 + k * 90009 := by
  intro k
  induction k with
  | zero =>
    intro _
    have := vb_len9 (n := x.kind.toNat) (by have := hn.1; omega)
    show (vb x.kind.toNat).length ≤ _
    omega
  | succ k ih =>
    intro hk
    have h1 := ih (by omega)
    have h2 := pFv_len hn ht k (by omega)
    rw [putB]
    split
    · rw [List.length_append]; omega
    · exact Nat.le_trans h1 (Nat.add_le_add_left (Nat.mul_le_mul_right _ (Nat.le_succ k)) 9)

/-- all parts, as they lie. -/
def partsC : Array Value := #[.int .i64 1, .int .i64 8, .nilFunc, .func (.func 82) #[] #[], .int .i64 1, .int .i64 4294967296, .nilFunc, .func (.func 83) #[] #[], .int .i64 2, .int .i64 0, .func (.func 84) #[] #[], .func (.func 85) #[] #[], .int .i64 4, .int .i64 0, .func (.func 86) #[] #[], .func (.func 87) #[] #[], .int .i64 8, .int .i64 0, .func (.func 86) #[] #[], .func (.func 88) #[] #[], .int .i64 16, .int .i64 9, .nilFunc, .func (.func 89) #[] #[]]
theorem PartsAt.of {w : World} {b : Nat} (h : Blk w b 75 partsC) : PartsAt w b := by
  refine ⟨fun i hi => ?_, h.lt⟩
  match i, hi with
  | 0, _ | 1, _ | 2, _ | 3, _ | 4, _ | 5, _ => exact ⟨(h.cell _).trans rfl, (h.cell _).trans rfl, (h.cell _).trans rfl, (h.cell _).trans rfl⟩
theorem parts_blk (w : World) :
    Calls Tryz.prog 45 #[] w fun e w' => e = .returned (.slice (some ⟨w.heap.size, 0, none⟩) 6 6) ∧ Blk w' w.heap.size 75 partsC ∧ Below w.heap.size w w' := by
  go_enter Tryz.func45, Tryz.ntmps45
  go_wp2
  go_ret
  exact ⟨rfl, Blk.new _ _ _, (Below.refl _ _).alloc (Nat.le_refl _) _⟩
set_option maxHeartbeats 4000000 in
set_option maxRecDepth 100000 in
theorem cmdput_calls (g : Nat) (v : Int) (x : CX) (w : World) (h : WrAt w g []) (hn : x.nat) (ht : x.tiny) :
    Calls Tryz.prog 17 #[.pointer (some ⟨g, 0, none⟩), .int .i64 v, x.value] w fun e w' => e = .returned (.tuple #[]) ∧ WrAt w' g (putB v x 6) ∧ w.grownBy w' (some g) := by
  have hg := h.lt
  obtain ⟨W, hW⟩ : ∃ W, W = w.alloc (.cells x.cells 23) := ⟨_, rfl⟩
  have hbW : Hid (Below w.heap.size w W) := by subst hW; exact (Below.refl _ _).alloc (Nat.le_refl _) _
  have hB : Hid (Blk W w.heap.size 23 x.cells) := by subst hW; exact Blk.new _ _ _
  have hWs : W.heap.size = w.heap.size + 1 := by subst hW; simp
  have H0 := Lib.hid (number_calls g [] x.kind W hn.1.1 hn.1.2 (Nat.zero_le _) (h.below hbW.out))
  have HW := Lib.hid (fun i hi (w1 : World) l hl hB hw => write_calls i hi x w1 w.heap.size g l hn ht hl hB hw)
  have HL := Lib.hid (fun k hk => putB_len (v := v) hn ht k hk)
  obtain ⟨kc, kf, hlt⟩ := hB.out.facts
  have c0 := kc 0
  simp only [List.getElem?_toArray, List.getElem?_cons_zero, List.getElem?_cons_succ] at c0
  have hne : w.heap.size ≠ g := by omega
  clear kc h
  go_enter Tryz.func17, Tryz.ntmps17
  go_wp2_with (fail)
  rw [← hW]
  clear hW
  refine H0.out.mono ?_
  rintro e w1 ⟨rfl, hw1, hg1⟩
  have hB1 := hB.out.only hg1 hne
  have hG1 := only_trans (only_of_below hbW.out (some g)) hg1
  have hs1 := hg1.size
  clear H0 hB c0 kf hlt hg1
  go_wp2_with (fail)
  refine (parts_blk _).mono ?_
  rintro e w2 ⟨rfl, hP, hb⟩
  obtain ⟨pb, hpb⟩ : ∃ pb, pb = w1.heap.size := ⟨_, rfl⟩
  rw [← hpb] at hP ⊢
  have hpg : pb ≠ g := by omega
  have hP2 := Lib.hid hP
  have hB2 := Lib.hid (hB1.call hb)
  have hw2 : Hid (WrAt w2 g (putB v x 0)) := hw1.below hb
  have hG2 : Hid (w.grownBy w2 (some g)) := only_trans hG1 (only_of_below hb _)
  clear hP hb hB1 hw1 hG1 hpb hs1 hbW hWs
  go_wp2_with (fail)
  go_loopw [14] (fun i wr => ∃ k : Nat, k ≤ 6 ∧ i = .int .i64 (k : Int) ∧ Hid (Blk wr pb 75 partsC) ∧ Hid (Blk wr w.heap.size 23 x.cells) ∧ Hid (WrAt wr g (putB v x k)) ∧ Hid (w.grownBy wr (some g))) (fun i _ => 6 - (intOf i).toNat)
  case atStart => exact ⟨0, by omega, rfl, hP2, hB2, hw2, hG2⟩
  case round =>
    obtain ⟨k, hk, rfl, hP, hB, hw, hG⟩ := hrel
    clear hP2 hB2 hw2 hG2
    by_cases hk6 : k < 6
    · obtain ⟨p0, p1, p2, p3⟩ := (PartsAt.of hP.out).1 k hk6
      have plt := hP.out.lt
      have hll := HL.out k (by omega)
      have hWr := fun w1 => HW.out k hk6 w1 (putB v x k) (by omega)
      have hWa := wanted_calls k v x.kind
      have e1 : Hid (putB v x (k + 1) = if wantB k v x.kind = true then putB v x k ++ (pFv x k).bytes else putB v x k) := rfl
      generalize putB v x k = L at *
      generalize wantB k v x.kind = wt at *
      generalize (pFv x k).bytes = fb at *
      simp only [partA] at hWr hWa
      obtain ⟨kc, kf, hlt⟩ := hB.out.facts
      have c0 := kc 0
      simp only [List.getElem?_toArray, List.getElem?_cons_zero, List.getElem?_cons_succ] at c0
      have hgr : w.heap.size ≤ wr.heap.size := hG.out.size
      clear kc hll
      rcases pIs_cases k with hpi | ⟨fn, hpi⟩
      · rw [hpi] at p2 hWr hWa
        have hWr := Lib.hid hWr
        have hWa := Lib.hid hWa
        clear hpi
        go_wp2_with (fail)
        clear p0 p1 p2 p3 plt c0 kf hlt
        obtain ⟨WA, hWA⟩ : ∃ WA, WA = wr.alloc (.cells #[.int .i64 (pHas k), .int .i64 (pMost k), .nilFunc, .func (.func (pFn k)) #[] #[]] 75) := ⟨_, rfl⟩
        rw [← hWA]
        have hbA : Hid (Below wr.heap.size wr WA) := by subst hWA; exact (Below.refl _ _).alloc (Nat.le_refl _) _
        have hAP : Hid (Blk WA wr.heap.size 75 #[.int .i64 (pHas k), .int .i64 (pMost k), .nilFunc, .func (.func (pFn k)) #[] #[]]) := by subst hWA; exact Blk.new _ _ _
        clear hWA
        refine (hWa.out WA).mono ?_
        rintro e wa ⟨rfl, hb⟩
        have hba : Below wr.heap.size wr wa := hbA.out.trans (hb.mono hbA.out.size)
        have hAP2 := Lib.hid (hAP.out.call hb)
        have hAB2 := Lib.hid (hB.out.call hba)
        have hPA2 := Lib.hid (hP.out.call hba)
        have hAw2 := Lib.hid (hw.out.below hba)
        have hAG2 := Lib.hid (only_trans hG.out (only_of_below hba (some g)))
        clear hb hbA hba hAP hB hP hw hG
        cases wt
        · have e2 : Hid (putB v x (k + 1) = L) := e1
          clear e1 hWr hWa
          go_wp2_with (fail)
          go_roundw
          case rel => exact ⟨k + 1, by omega, by go_num, hPA2, hAB2, by rw [e2.out]; exact hAw2, hAG2⟩
          case measure => simp [intOf]; omega
        · have e2 : Hid (putB v x (k + 1) = L ++ fb) := e1
          obtain ⟨kd, kg, hlu⟩ := hAP2.out.facts
          clear e1 hWa
          go_wp2_with (fail)
          refine (hWr.out wa hAB2.out hAw2.out).mono ?_
          rintro e wb ⟨rfl, hwb, hgb⟩
          have hPA3 := Lib.hid (hPA2.out.only hgb hpg)
          have hAB3 := Lib.hid (hAB2.out.only hgb hne)
          have hAw3 : Hid (WrAt wb g (putB v x (k + 1))) := by rw [e2.out]; exact hwb
          have hAG3 := Lib.hid (only_trans hAG2.out hgb)
          clear hwb hgb hPA2 hAB2 hAw2 hAG2 hAP2 kd kg hlu hWr e2
          go_wp2_with (fail)
          go_roundw
          case rel => exact ⟨k + 1, by omega, by go_num, hPA3, hAB3, hAw3, hAG3⟩
          case measure => simp [intOf]; omega
      · rw [hpi] at p2 hWr hWa
        have hWr := Lib.hid hWr
        have hWa := Lib.hid hWa
        clear hpi
        go_wp2_with (fail)
        clear p0 p1 p2 p3 plt c0 kf hlt
        obtain ⟨WA, hWA⟩ : ∃ WA, WA = wr.alloc (.cells #[.int .i64 (pHas k), .int .i64 (pMost k), .func (.func fn) #[] #[], .func (.func (pFn k)) #[] #[]] 75) := ⟨_, rfl⟩
        rw [← hWA]
        have hbA : Hid (Below wr.heap.size wr WA) := by subst hWA; exact (Below.refl _ _).alloc (Nat.le_refl _) _
        have hAP : Hid (Blk WA wr.heap.size 75 #[.int .i64 (pHas k), .int .i64 (pMost k), .func (.func fn) #[] #[], .func (.func (pFn k)) #[] #[]]) := by subst hWA; exact Blk.new _ _ _
        clear hWA
        refine (hWa.out WA).mono ?_
        rintro e wa ⟨rfl, hb⟩
        have hba : Below wr.heap.size wr wa := hbA.out.trans (hb.mono hbA.out.size)
        have hAP2 := Lib.hid (hAP.out.call hb)
        have hAB2 := Lib.hid (hB.out.call hba)
        have hPA2 := Lib.hid (hP.out.call hba)
        have hAw2 := Lib.hid (hw.out.below hba)
        have hAG2 := Lib.hid (only_trans hG.out (only_of_below hba (some g)))
        clear hb hbA hba hAP hB hP hw hG
        cases wt
        · have e2 : Hid (putB v x (k + 1) = L) := e1
          clear e1 hWr hWa
          go_wp2_with (fail)
          go_roundw
          case rel => exact ⟨k + 1, by omega, by go_num, hPA2, hAB2, by rw [e2.out]; exact hAw2, hAG2⟩
          case measure => simp [intOf]; omega
        · have e2 : Hid (putB v x (k + 1) = L ++ fb) := e1
          obtain ⟨kd, kg, hlu⟩ := hAP2.out.facts
          clear e1 hWa
          go_wp2_with (fail)
          refine (hWr.out wa hAB2.out hAw2.out).mono ?_
          rintro e wb ⟨rfl, hwb, hgb⟩
          have hPA3 := Lib.hid (hPA2.out.only hgb hpg)
          have hAB3 := Lib.hid (hAB2.out.only hgb hne)
          have hAw3 : Hid (WrAt wb g (putB v x (k + 1))) := by rw [e2.out]; exact hwb
          have hAG3 := Lib.hid (only_trans hAG2.out hgb)
          clear hwb hgb hPA2 hAB2 hAw2 hAG2 hAP2 kd kg hlu hWr e2
          go_wp2_with (fail)
          go_roundw
          case rel => exact ⟨k + 1, by omega, by go_num, hPA3, hAB3, hAw3, hAG3⟩
          case measure => simp [intOf]; omega
    · have hk6' : k = 6 := by omega
      subst hk6'
      clear hP hB HW
      go_wp2_with (fail)
      go_end0
      exact ⟨rfl, hw.out, hG.out⟩

/-- why a command may not be in a version; 0: it may. -/
def hasE (v : Int) (x : CX) : Int := if cmdE x = 0 then (if vhasB v x.kind = true then 0 else 8) else cmdE x
set_option maxHeartbeats 1000000 in
set_option maxRecDepth 100000 in
theorem has_calls (v : Int) (x : CX) (w : World) (hs : x.short) (hT : Lib.Utf8Tabs 0 1 w) :
    Calls Tryz.prog 35 #[.int .i64 v, x.value] w fun e w' => e = .returned (.int .i64 (hasE v x)) ∧ Below w.heap.size w w' := by
  have hE : Hid (hasE v x = if cmdE x = 0 then (if vhasB v x.kind = true then 0 else 8) else cmdE x) := rfl
  obtain ⟨W, hW⟩ : ∃ W, W = w.alloc (.cells x.cells 23) := ⟨_, rfl⟩
  have hbW : Hid (Below w.heap.size w W) := by subst hW; exact (Below.refl _ _).alloc (Nat.le_refl _) _
  have hB : Hid (Blk W w.heap.size 23 x.cells) := by subst hW; exact Blk.new _ _ _
  have HC := Lib.hid (cmdcheck_calls x W hs (Utf8Tabs_below hT hbW.out))
  have HV := Lib.hid (vhas_calls v x.kind)
  clear hT hs
  obtain ⟨kc, kf, hlt⟩ := hB.out.facts
  generalize cmdE x = ce at *
  generalize vhasB v x.kind = vh at *
  by_cases hc : ce = 0
  · subst hc
    go_enter Tryz.func35, Tryz.ntmps35
    go_wp2_with (fail)
    rw [← hW]
    clear hW
    refine HC.out.mono ?_
    rintro e w1 ⟨rfl, hb⟩
    have hB1 := Lib.hid (hB.out.call hb)
    have hb1 : Hid (Below w.heap.size w w1) := hbW.out.trans (hb.mono hbW.out.size)
    clear kc kf hlt hb hB HC
    obtain ⟨kc, kf, hlt⟩ := hB1.out.facts
    go_wp2_with (fail)
    refine (HV.out _).mono ?_
    rintro e w2 ⟨rfl, rfl⟩
    cases vh
    · have hq : Hid (hasE v x = 8) := hE
      clear hE
      go_wp2_with (fail)
      go_ret
      exact ⟨ret_int hq.out.symm, hb1.out⟩
    · have hq : Hid (hasE v x = 0) := hE
      clear hE
      go_wp2_with (fail)
      go_ret
      exact ⟨ret_int hq.out.symm, hb1.out⟩
  · have hq : Hid (hasE v x = ce) := by show _ = _; rw [hE.out, if_neg hc]
    have t1 : (ce == 0) = false := beq_eq_false_iff_ne.2 hc
    clear hE hc
    go_enter Tryz.func35, Tryz.ntmps35
    go_wp2_with (fail)
    rw [← hW]
    clear hW
    refine HC.out.mono ?_
    rintro e w1 ⟨rfl, hb⟩
    have hb1 : Hid (Below w.heap.size w w1) := hbW.out.trans (hb.mono hbW.out.size)
    clear kc kf hlt hb hB HC
    go_wp2_with (fail)
    go_ret
    exact ⟨ret_int hq.out.symm, hb1.out⟩

/-- why a command has no bytes in a version; 0: it has. -/
def encC (v : Int) (x : CX) : Int := if v = 1 ∨ v = 2 then hasE v x else 8
theorem ret_encC {a b : Int} (h : a = b) : Ending.returned (Value.tuple #[.slice none 0 0, .int .i64 a]) = Ending.returned (Value.tuple #[.slice none 0 0, .int .i64 b]) := by rw [h]
set_option maxHeartbeats 2000000 in
set_option maxRecDepth 100000 in
theorem cmdenc_no (v : Int) (x : CX) (w : World) (hs : x.short) (hT : Lib.Utf8Tabs 0 1 w) (h : encC v x ≠ 0) :
    Calls Tryz.prog 11 #[.int .i64 v, x.value] w fun e w' => e = .returned (.tuple #[.slice none 0 0, .int .i64 (encC v x)]) ∧ Below w.heap.size w w' := by
  have HM := Lib.hid (may_calls v)
  obtain ⟨W, hW⟩ : ∃ W, W = w.alloc (.cells x.cells 23) := ⟨_, rfl⟩
  have hbW : Hid (Below w.heap.size w W) := by subst hW; exact (Below.refl _ _).alloc (Nat.le_refl _) _
  have hB : Hid (Blk W w.heap.size 23 x.cells) := by subst hW; exact Blk.new _ _ _
  have HC := Lib.hid (has_calls v x W hs (Utf8Tabs_below hT hbW.out))
  obtain ⟨kc, kf, hlt⟩ := hB.out.facts
  clear hT hs
  by_cases h1 : v = 1 ∨ v = 2
  · have HM : Hid (∀ w, Calls Tryz.prog 34 #[.int .i64 v] w fun e w' => e = .returned (.bool true) ∧ w = w') := by
      have := HM.out
      rw [decide_eq_true h1] at this
      exact this
    have hq : Hid (encC v x = hasE v x) := by show _ = _; unfold encC; rw [if_pos h1]
    have h0 : hasE v x ≠ 0 := by rw [← hq.out]; exact h
    have t1 : (hasE v x == 0) = false := beq_eq_false_iff_ne.2 h0
    clear h h0 h1
    generalize hasE v x = he at *
    go_enter Tryz.func11, Tryz.ntmps11
    go_wp2_with (fail)
    rw [← hW]
    refine (HM.out _).mono ?_
    rintro e w1 ⟨rfl, rfl⟩
    go_wp2_with (fail)
    rw [← hW]
    clear hW
    refine HC.out.mono ?_
    rintro e w1 ⟨rfl, hb⟩
    have hb' : Hid (Below w.heap.size w w1) := hbW.out.trans (hb.mono hbW.out.size)
    clear hb HC hB kc kf hlt
    go_wp2_with (fail)
    go_ret2
    exact ⟨ret_encC hq.out.symm, hb'.out⟩
  · have HM : Hid (∀ w, Calls Tryz.prog 34 #[.int .i64 v] w fun e w' => e = .returned (.bool false) ∧ w = w') := by
      have := HM.out
      rw [decide_eq_false h1] at this
      exact this
    have hf : Hid (encC v x = 8) := by show _ = _; unfold encC; rw [if_neg h1]
    clear h h1 HC
    go_enter Tryz.func11, Tryz.ntmps11
    go_wp2_with (fail)
    rw [← hW]
    clear hW
    refine (HM.out _).mono ?_
    rintro e w1 ⟨rfl, rfl⟩
    go_wp2_with (fail)
    go_ret2
    exact ⟨ret_encC hf.out.symm, hbW.out⟩
theorem encC_ok {v : Int} {x : CX} (h : encC v x = 0) : (v = 1 ∨ v = 2) ∧ cmdE x = 0 ∧ vhasB v x.kind = true := by
  unfold encC at h
  by_cases h1 : v = 1 ∨ v = 2
  · rw [if_pos h1] at h
    unfold hasE at h
    by_cases h2 : cmdE x = 0
    · rw [if_pos h2] at h
      by_cases h3 : vhasB v x.kind = true
      · exact ⟨h1, h2, h3⟩
      · rw [if_neg h3] at h; exact absurd h (by decide)
    · rw [if_neg h2] at h; exact absurd h h2
  · rw [if_neg h1] at h; exact absurd h (by decide)
theorem encC_of {v : Int} {x : CX} (h1 : v = 1 ∨ v = 2) (h2 : cmdE x = 0) (h3 : vhasB v x.kind = true) : encC v x = 0 := by
  unfold encC hasE; rw [if_pos h1, if_pos h2, if_pos h3]
theorem hasE_of {v : Int} {x : CX} (h : encC v x = 0) : hasE v x = 0 := by
  obtain ⟨h1, h2, h3⟩ := encC_ok h
  unfold hasE; rw [if_pos h2, if_pos h3]
theorem CX.Ok.nat {x : CX} (h : x.Ok) : x.nat := by
  have h0 := h.kind
  have h1 := h.client.le (by omega)
  have h2 := h.seq.le (by omega)
  have h3 := h.node.le (by omega)
  exact ⟨⟨by omega, by omega⟩, ⟨by omega, by omega⟩, ⟨by omega, by omega⟩, ⟨by omega, by omega⟩⟩
theorem CX.Ok.tiny {x : CX} (h : x.Ok) : x.tiny := by
  obtain ⟨h1, h2, h3⟩ := h.small
  exact ⟨by omega, by omega, by omega⟩

set_option maxHeartbeats 2000000 in
set_option maxRecDepth 100000 in
theorem cmdenc_ok (v : Int) (x : CX) (w : World) (hT : Lib.Utf8Tabs 0 1 w) (h : encC v x = 0) :
    Calls Tryz.prog 11 #[.int .i64 v, x.value] w fun e w' => ∃ B k d, e = .returned (.tuple #[.slice B k d, .int .i64 0]) ∧ w'.ownsRow w.heap.size 5 1 (.slice B k d) k (Lib.byteCells (putB v x 6)) ∧ Below w.heap.size w w' := by
  obtain ⟨h1, h2, h3⟩ := encC_ok h
  have hok := cmd_ok h2
  have hn := hok.nat
  have ht := hok.tiny
  have hsz : (putB v x 6).length ≤ 1000000 := Nat.le_trans (putB_len hn ht 6 (Nat.le_refl _)) (by decide)
  have HM : Hid (∀ w, Calls Tryz.prog 34 #[.int .i64 v] w fun e w' => e = .returned (.bool true) ∧ w = w') := by
    have := may_calls v
    rw [decide_eq_true h1] at this
    exact this
  obtain ⟨W, hW⟩ : ∃ W, W = w.alloc (.cells x.cells 23) := ⟨_, rfl⟩
  have hbW : Hid (Below w.heap.size w W) := by subst hW; exact (Below.refl _ _).alloc (Nat.le_refl _) _
  have hB : Hid (Blk W w.heap.size 23 x.cells) := by subst hW; exact Blk.new _ _ _
  have HC := has_calls v x W ht.short (Utf8Tabs_below hT hbW.out)
  rw [hasE_of h] at HC
  have HC := Lib.hid HC
  have HP := Lib.hid (fun g (w1 : World) (hw : WrAt w1 g []) => cmdput_calls g v x w1 hw hn ht)
  have HB := Lib.hid (fun g (w1 : World) (hw : WrAt w1 g (putB v x 6)) => wbytes_calls g _ w1 hsz hw)
  obtain ⟨kc, kf, hlt⟩ := hB.out.facts
  clear hT h h1 h2 h3 hok hn ht
  generalize putB v x 6 = bs at *
  go_enter Tryz.func11, Tryz.ntmps11
  go_wp2_with (fail)
  rw [← hW]
  refine (HM.out _).mono ?_
  rintro e w1 ⟨rfl, rfl⟩
  go_wp2_with (fail)
  rw [← hW]
  clear hW
  refine HC.out.mono ?_
  rintro e w1 ⟨rfl, hb⟩
  have hB1 := hB.out.call hb
  have hb' : Hid (Below w.heap.size w w1) := hbW.out.trans (hb.mono hbW.out.size)
  clear kc kf hlt hB
  obtain ⟨kc, kf, hlt⟩ := hB1.facts
  clear hb hB1
  go_wp2_with (fail)
  refine (HP.out _ _ (WrAt.new w1)).mono ?_
  rintro e w2 ⟨rfl, hw2, hg2⟩
  have hb2 : Hid (Below w.heap.size w w2) := hb'.out.trans (below_of_only (only_trans (only_of_below ((Below.refl _ _).alloc (Nat.le_refl _) _) _) hg2) hb'.out.size hb'.out.size)
  have hw2' := Lib.hid hw2
  clear hw2 hg2 kc kf hlt
  go_wp2_with (fail)
  refine (HB.out _ _ hw2'.out).mono ?_
  rintro e w3 ⟨B, k, d, rfl, ho, hb3⟩
  have ho' := Lib.hid (own_mono ho hb2.out.size)
  have hb3' := Lib.hid (hb2.out.trans (hb3.mono hb2.out.size))
  clear ho hb3
  go_wp2_with (fail)
  go_ret2
  exact ⟨B, k, d, rfl, ho'.out, hb3'.out⟩
end Go.Proofs.YtdgbpmbknlhgmaaGreatDoor
