/-
The walks through package cmd: fields, parts, Check. (Printed by gen_cmdb.py.)
-/
import Derived.Test.YtdgbpmbknlhgmaaGreatDoorCmdA
import Derived.Laws.EntriesVeiled
set_option linter.unusedVariables false
set_option linter.unusedSimpArgs false
namespace Go.Proofs.YtdgbpmbknlhgmaaGreatDoor
open Go.RowKit Qt

def pHas : Nat → Int
  | 0 => 1
  | 1 => 1
  | 2 => 2
  | 3 => 4
  | 4 => 8
  | _ => 16
def pMost : Nat → Int
  | 0 => 8
  | 1 => 4294967296
  | 2 => 0
  | 3 => 0
  | 4 => 0
  | _ => 9
def pIs : Nat → Value
  | 0 => .nilFunc
  | 1 => .nilFunc
  | 2 => .func (.func 84) #[] #[]
  | 3 => .func (.func 86) #[] #[]
  | 4 => .func (.func 86) #[] #[]
  | _ => .nilFunc
def pFn : Nat → FuncId
  | 0 => 82
  | 1 => 83
  | 2 => 85
  | 3 => 87
  | 4 => 88
  | _ => 89
abbrev pAt (i : Nat) : Value := .func (.func (pFn i)) #[] #[]
theorem pIs_cases (i : Nat) : pIs i = .nilFunc ∨ ∃ fn, pIs i = .func (.func fn) #[] #[] := by
  match i with
  | 0 | 1 => exact .inl rfl
  | 2 | 3 | 4 => exact .inr ⟨_, rfl⟩
  | k + 5 => exact .inl rfl
abbrev partA (i : Nat) : Value := .agg #[.int .i64 (pHas i), .int .i64 (pMost i), pIs i, pAt i]
def nOk (x : CX) (f : Int) : Nat → Bool
  | 0 => numOk 1 8 x.client f
  | 1 => numOk 1 4294967296 x.seq f
  | 2 => true
  | 3 => true
  | 4 => true
  | _ => numOk 16 9 x.node f
def nF (x : CX) (f : Int) : Nat → Bool
  | 0 => numF 1 x.client f
  | 1 => numF 1 x.seq f
  | 2 => true
  | 3 => true
  | 4 => true
  | _ => numF 16 x.node f
def tOk (x : CX) (f : Int) : Nat → Bool
  | 0 => true
  | 1 => true
  | 2 => txtOk 2 isKey x.key f
  | 3 => txtOk 4 isVal x.old f
  | 4 => txtOk 8 isVal x.val f
  | _ => true
def tF (x : CX) (f : Int) : Nat → Bool
  | 0 => true
  | 1 => true
  | 2 => txtF 2 x.key f
  | 3 => txtF 4 x.old f
  | 4 => txtF 8 x.val f
  | _ => true
/-- are the texts short enough to be looked at? -/
def CX.short (x : CX) : Prop := x.key.length ≤ 1000000 ∧ x.val.length ≤ 1000000 ∧ x.old.length ≤ 1000000
theorem pnumber_calls (i : Nat) (hi : i < 6) (x : CX) (w : World) (g : Nat) (f : Int) (hB : Blk w g 23 x.cells) :
    Calls Tryz.prog 99 #[partA i, .pointer (some ⟨g, 0, none⟩), .int .i64 f] w fun e w' => e = .returned (.tuple #[.bool (nOk x f i), .bool (nF x f i)]) ∧ Below w.heap.size w w' := by
  match i, hi with
  | 0, _ => exact number0 x w g f hB
  | 1, _ => exact number1 x w g f hB
  | 2, _ => exact number2 x w g f
  | 3, _ => exact number3 x w g f
  | 4, _ => exact number4 x w g f
  | 5, _ => exact number5 x w g f hB
theorem ptext_calls (i : Nat) (hi : i < 6) (x : CX) (w : World) (g : Nat) (f : Int) (hs : x.short) (hT : Lib.Utf8Tabs 0 1 w) (hB : Blk w g 23 x.cells) :
    Calls Tryz.prog 100 #[partA i, .pointer (some ⟨g, 0, none⟩), .int .i64 f] w fun e w' => e = .returned (.tuple #[.bool (tOk x f i), .bool (tF x f i)]) ∧ Below w.heap.size w w' := by
  match i, hi with
  | 0, _ => exact text0 x w g f
  | 1, _ => exact text1 x w g f
  | 2, _ => exact text2 x w g f hT hs.1 hB
  | 3, _ => exact text3 x w g f hT hs.2.2 hB
  | 4, _ => exact text4 x w g f hT hs.2.1 hB
  | 5, _ => exact text5 x w g f

/-- a kind's fields. -/
def fieldsI (k : Int) : Int := if k = 1 ∨ k = 6 then 0 else if k = 2 then 11 else if k = 3 ∨ k = 4 then 3 else if k = 5 then 15 else if k = 7 ∨ k = 8 then 16 else 0
def kindOk (k : Int) : Bool := decide (1 ≤ k) && decide (k ≤ 8)
theorem ret_ib {a b : Int} {c d : Bool} (h : a = b) (h2 : c = d) : Ending.returned (Value.tuple #[.int .i64 a, .bool c]) = Ending.returned (Value.tuple #[.int .i64 b, .bool d]) := by rw [h, h2]
set_option maxHeartbeats 1000000 in
theorem fields_calls (k : Int) (w : World) :
    Calls Tryz.prog 90 #[.int .i64 k] w fun e w' => e = .returned (.tuple #[.int .i64 (fieldsI k), .bool (kindOk k)]) ∧ w = w' := by
  have hc : k = 1 ∨ k = 2 ∨ k = 3 ∨ k = 4 ∨ k = 5 ∨ k = 6 ∨ k = 7 ∨ k = 8 ∨ (k < 1 ∨ 8 < k) := by omega
  rcases hc with rfl | rfl | rfl | rfl | rfl | rfl | rfl | rfl | hk
  iterate 8
    · go_enter Tryz.func90, Tryz.ntmps90
      go_wp2
      go_ret2
      exact ⟨rfl, rfl⟩
  have h1 : fieldsI k = 0 := by unfold fieldsI; rw [if_neg (by omega), if_neg (by omega), if_neg (by omega), if_neg (by omega), if_neg (by omega)]
  have h2 : kindOk k = false := by
    unfold kindOk
    rcases hk with h | h
    · rw [decide_eq_false (by omega)]; rfl
    · rw [decide_eq_false (p := k ≤ 8) (by omega), Bool.and_false]
  have h3 : Hid (Ending.returned (Value.tuple #[.int .i64 0, .bool false]) = Ending.returned (Value.tuple #[.int .i64 (fieldsI k), .bool (kindOk k)])) := ret_ib h1.symm h2.symm
  have n1 : (k == 1) = false := beq_eq_false_iff_ne.2 (by omega)
  have n2 : (k == 2) = false := beq_eq_false_iff_ne.2 (by omega)
  have n3 : (k == 3) = false := beq_eq_false_iff_ne.2 (by omega)
  have n4 : (k == 4) = false := beq_eq_false_iff_ne.2 (by omega)
  have n5 : (k == 5) = false := beq_eq_false_iff_ne.2 (by omega)
  have n6 : (k == 6) = false := beq_eq_false_iff_ne.2 (by omega)
  have n7 : (k == 7) = false := beq_eq_false_iff_ne.2 (by omega)
  have n8 : (k == 8) = false := beq_eq_false_iff_ne.2 (by omega)
  clear h1 h2 hk
  go_enter Tryz.func90, Tryz.ntmps90
  go_wp2
  go_ret2
  exact ⟨h3.out, rfl⟩

/-- the parts where they lie. -/
def PartsAt (w : World) (b : Nat) : Prop := (∀ i, i < 6 → w.cell? ⟨b, i * 4, none⟩ = some (.int .i64 (pHas i)) ∧ w.cell? ⟨b, i * 4 + 1, none⟩ = some (.int .i64 (pMost i)) ∧ w.cell? ⟨b, i * 4 + 2, none⟩ = some (pIs i) ∧ w.cell? ⟨b, i * 4 + 3, none⟩ = some (pAt i)) ∧ b < w.heap.size
theorem PartsAt.below {w w' : World} {b : Nat} (h : PartsAt w b) (hb : Below w.heap.size w w') : PartsAt w' b := by
  refine ⟨fun i hi => ?_, Nat.lt_of_lt_of_le h.2 hb.size⟩
  obtain ⟨h0, h1, h2, h3⟩ := h.1 i hi
  exact ⟨(hb.cell h.2).trans h0, (hb.cell h.2).trans h1, (hb.cell h.2).trans h2, (hb.cell h.2).trans h3⟩
set_option maxHeartbeats 1000000 in
theorem parts_calls (w : World) :
    Calls Tryz.prog 45 #[] w fun e w' => ∃ b, e = .returned (.slice (some ⟨b, 0, none⟩) 6 6) ∧ PartsAt w' b ∧ Below w.heap.size w w' := by
  go_enter Tryz.func45, Tryz.ntmps45
  go_wp2
  go_ret
  refine ⟨w.heap.size, rfl, ?_, (Below.refl _ _).alloc (Nat.le_refl _) _⟩
  have hB := Blk.new w 75 #[.int .i64 1, .int .i64 8, .nilFunc, .func (.func 82) #[] #[], .int .i64 1, .int .i64 4294967296, .nilFunc, .func (.func 83) #[] #[], .int .i64 2, .int .i64 0, .func (.func 84) #[] #[], .func (.func 85) #[] #[], .int .i64 4, .int .i64 0, .func (.func 86) #[] #[], .func (.func 87) #[] #[], .int .i64 8, .int .i64 0, .func (.func 86) #[] #[], .func (.func 88) #[] #[], .int .i64 16, .int .i64 9, .nilFunc, .func (.func 89) #[] #[]]
  refine ⟨fun i hi => ?_, hB.lt⟩
  match i, hi with
  | 0, _ | 1, _ | 2, _ | 3, _ | 4, _ | 5, _ => exact ⟨hB.cell _, hB.cell _, hB.cell _, hB.cell _⟩

def andTo (p : Nat → Bool) : Nat → Bool
  | 0 => true
  | k + 1 => andTo p k && p k
/-- what is wrong with a command. -/
def cmdE (x : CX) : Int :=
  if kindOk x.kind = true then
    if andTo (nOk x (fieldsI x.kind)) 6 = true then
      if andTo (tOk x (fieldsI x.kind)) 6 = true then
        if andTo (fun i => nF x (fieldsI x.kind) i && tF x (fieldsI x.kind) i) 6 = true then 0 else 3
      else 7
    else 6
  else 5
set_option maxHeartbeats 4000000 in
set_option maxRecDepth 100000 in
theorem cmdcheck_calls (x : CX) (w : World) (hs : x.short) (hT : Lib.Utf8Tabs 0 1 w) :
    Calls Tryz.prog 56 #[x.value] w fun e w' => e = .returned (.int .i64 (cmdE x)) ∧ Below w.heap.size w w' := by
  have hE : Hid (cmdE x = if kindOk x.kind = true then if andTo (nOk x (fieldsI x.kind)) 6 = true then if andTo (tOk x (fieldsI x.kind)) 6 = true then if andTo (fun i => nF x (fieldsI x.kind) i && tF x (fieldsI x.kind) i) 6 = true then 0 else 3 else 7 else 6 else 5) := rfl
  have hT' := Lib.hid hT
  obtain ⟨W, hW⟩ : ∃ W, W = w.alloc (.cells x.cells 23) := ⟨_, rfl⟩
  have hbW : Hid (Below w.heap.size w W) := by subst hW; exact (Below.refl _ _).alloc (Nat.le_refl _) _
  have hB : Hid (Blk W w.heap.size 23 x.cells) := by subst hW; exact Blk.new _ _ _
  have hF := Lib.hid (fields_calls x.kind W)
  have HN := Lib.hid (fun i hi w1 f hB => pnumber_calls i hi x w1 w.heap.size f hB)
  have HX := Lib.hid (fun i hi w1 f hT hB => ptext_calls i hi x w1 w.heap.size f hs hT hB)
  obtain ⟨kc, kf, hlt⟩ := hB.out.facts
  have c0 := kc 0
  simp only [List.getElem?_toArray, List.getElem?_cons_zero, List.getElem?_cons_succ] at c0
  clear kc hT hs
  generalize hff : fieldsI x.kind = ff at *
  generalize kindOk x.kind = ok at *
  cases ok
  · have hq : Hid (cmdE x = 5) := hE
    clear hE
    go_enter Tryz.func56, Tryz.ntmps56
    go_wp2_with (fail)
    rw [← hW]
    clear hW
    go_wp2_with (fail)
    refine hF.out.mono ?_
    rintro e w1 ⟨rfl, rfl⟩
    go_wp2_with (fail)
    go_ret
    exact ⟨ret_int hq.out.symm, hbW.out⟩
  · go_enter Tryz.func56, Tryz.ntmps56
    go_wp2_with (fail)
    rw [← hW]
    clear hW
    go_wp2_with (fail)
    refine hF.out.mono ?_
    rintro e w1 ⟨rfl, rfl⟩
    go_wp2_with (fail)
    refine (parts_calls _).mono ?_
    rintro e w2 ⟨pb, rfl, hP, hb⟩
    have hP2 := Lib.hid hP
    have hB2 := Lib.hid (hB.out.call hb)
    have hb2 : Hid (Below w.heap.size w w2) := hbW.out.trans (hb.mono hbW.out.size)
    clear hP hb hF hB c0 kf hlt hbW
    go_wp2_with (fail)
    go_loopw [24, 5, 6, 7] (fun i a b c wr => ∃ k : Nat, k ≤ 6 ∧ i = .int .i64 (k : Int) ∧ a = .bool (andTo (nOk x ff) k) ∧ b = .bool (andTo (tOk x ff) k) ∧ c = .bool (andTo (fun i => nF x ff i && tF x ff i) k) ∧ Hid (PartsAt wr pb) ∧ Hid (Blk wr w.heap.size 23 x.cells) ∧ Hid (Below w.heap.size w wr)) (fun i _ _ _ _ => 6 - (intOf i).toNat)
    case atStart => exact ⟨0, by omega, rfl, rfl, rfl, rfl, hP2, hB2, hb2⟩
    case round =>
      obtain ⟨k, hk, rfl, rfl, rfl, rfl, hP, hB, hb⟩ := hrel
      clear hP2 hB2 hb2
      by_cases hk6 : k < 6
      · obtain ⟨p0, p1, p2, p3⟩ := hP.out.1 k hk6
        have plt := hP.out.2
        obtain ⟨i, hi⟩ : ∃ i, i = pIs k := ⟨_, rfl⟩
        have N1 := fun w1 => HN.out k hk6 w1 ff
        have X1 := fun w1 => HX.out k hk6 w1 ff
        have e0 : Hid (andTo (nOk x ff) (k + 1) = (andTo (nOk x ff) k && nOk x ff k)) := rfl
        have e1 : Hid (andTo (tOk x ff) (k + 1) = (andTo (tOk x ff) k && tOk x ff k)) := rfl
        have e2 : Hid (andTo (fun i => nF x ff i && tF x ff i) (k + 1) = (andTo (fun i => nF x ff i && tF x ff i) k && nF x ff k && tF x ff k)) := (Bool.and_assoc _ _ _).symm
        generalize nOk x ff k = r1 at *
        generalize tOk x ff k = r2 at *
        generalize nF x ff k = r3 at *
        generalize tF x ff k = r4 at *
        generalize andTo (nOk x ff) k = g1 at *
        generalize andTo (tOk x ff) k = g2 at *
        generalize andTo (fun i => nF x ff i && tF x ff i) k = g3 at *
        simp only [partA] at N1 X1
        have hpb := Lib.hid (show pb < wr.heap.size from plt)
        rcases pIs_cases k with hpi | ⟨fn, hpi⟩
        · rw [hpi] at p2 N1 X1
          have N1 := Lib.hid N1
          have X1 := Lib.hid X1
          clear hpi
          go_wp2_with (fail)
          clear p0 p1 p2 p3 plt
          obtain ⟨WA, hWA⟩ : ∃ WA, WA = wr.alloc (.cells #[.int .i64 (pHas k), .int .i64 (pMost k), .nilFunc, .func (.func (pFn k)) #[] #[]] 75) := ⟨_, rfl⟩
          rw [← hWA]
          have hbA : Hid (Below w.heap.size w WA) := by subst hWA; exact hb.out.alloc hb.out.size _
          have hAP : Hid (Blk WA wr.heap.size 75 #[.int .i64 (pHas k), .int .i64 (pMost k), .nilFunc, .func (.func (pFn k)) #[] #[]]) := by subst hWA; exact Blk.new _ _ _
          have hAB : Hid (Blk WA w.heap.size 23 x.cells) := by subst hWA; exact hB.out.alloc _
          have hPA : Hid (PartsAt WA pb) := by subst hWA; exact hP.out.below ((Below.refl _ _).alloc (Nat.le_refl _) _)
          clear hWA hb hB hP
          refine (N1.out WA hAB.out).mono ?_
          rintro e wa ⟨rfl, hb⟩
          have hbA2 : Hid (Below w.heap.size w wa) := hbA.out.trans (hb.mono hbA.out.size)
          have hAP2 := Lib.hid (hAP.out.call hb)
          have hAB2 := Lib.hid (hAB.out.call hb)
          have hPA2 := Lib.hid (hPA.out.below hb)
          clear hb hbA hAP hAB hPA
          obtain ⟨kc, kf, hlt2⟩ := hAP2.out.facts
          go_wp2_with (fail)
          refine (X1.out wa (Utf8Tabs_below hT'.out hbA2.out) hAB2.out).mono ?_
          rintro e wb ⟨rfl, hb⟩
          have hbA3 : Hid (Below w.heap.size w wb) := hbA2.out.trans (hb.mono hbA2.out.size)
          have hAB3 := Lib.hid (hAB2.out.call hb)
          have hPA3 := Lib.hid (hPA2.out.below hb)
          clear hb hbA2 hAP2 hAB2 hPA2 kc kf hlt2
          go_wp2_with (fail)
          all_goals
            go_roundw
            case rel => exact ⟨k + 1, by omega, by go_num, congrArg Value.bool (by rw [e0.out]; cases g1 <;> cases r1 <;> first | rfl | contradiction), congrArg Value.bool (by rw [e1.out]; cases g2 <;> cases r2 <;> first | rfl | contradiction), congrArg Value.bool (by rw [e2.out]; cases g3 <;> cases r3 <;> cases r4 <;> first | rfl | contradiction), hPA3, hAB3, hbA3⟩
            case measure => simp [intOf]; omega
        · rw [hpi] at p2 N1 X1
          have N1 := Lib.hid N1
          have X1 := Lib.hid X1
          clear hpi
          go_wp2_with (fail)
          clear p0 p1 p2 p3 plt
          obtain ⟨WA, hWA⟩ : ∃ WA, WA = wr.alloc (.cells #[.int .i64 (pHas k), .int .i64 (pMost k), .func (.func fn) #[] #[], .func (.func (pFn k)) #[] #[]] 75) := ⟨_, rfl⟩
          rw [← hWA]
          have hbA : Hid (Below w.heap.size w WA) := by subst hWA; exact hb.out.alloc hb.out.size _
          have hAP : Hid (Blk WA wr.heap.size 75 #[.int .i64 (pHas k), .int .i64 (pMost k), .func (.func fn) #[] #[], .func (.func (pFn k)) #[] #[]]) := by subst hWA; exact Blk.new _ _ _
          have hAB : Hid (Blk WA w.heap.size 23 x.cells) := by subst hWA; exact hB.out.alloc _
          have hPA : Hid (PartsAt WA pb) := by subst hWA; exact hP.out.below ((Below.refl _ _).alloc (Nat.le_refl _) _)
          clear hWA hb hB hP
          refine (N1.out WA hAB.out).mono ?_
          rintro e wa ⟨rfl, hb⟩
          have hbA2 : Hid (Below w.heap.size w wa) := hbA.out.trans (hb.mono hbA.out.size)
          have hAP2 := Lib.hid (hAP.out.call hb)
          have hAB2 := Lib.hid (hAB.out.call hb)
          have hPA2 := Lib.hid (hPA.out.below hb)
          clear hb hbA hAP hAB hPA
          obtain ⟨kc, kf, hlt2⟩ := hAP2.out.facts
          go_wp2_with (fail)
          refine (X1.out wa (Utf8Tabs_below hT'.out hbA2.out) hAB2.out).mono ?_
          rintro e wb ⟨rfl, hb⟩
          have hbA3 : Hid (Below w.heap.size w wb) := hbA2.out.trans (hb.mono hbA2.out.size)
          have hAB3 := Lib.hid (hAB2.out.call hb)
          have hPA3 := Lib.hid (hPA2.out.below hb)
          clear hb hbA2 hAP2 hAB2 hPA2 kc kf hlt2
          go_wp2_with (fail)
          all_goals
            go_roundw
            case rel => exact ⟨k + 1, by omega, by go_num, congrArg Value.bool (by rw [e0.out]; cases g1 <;> cases r1 <;> first | rfl | contradiction), congrArg Value.bool (by rw [e1.out]; cases g2 <;> cases r2 <;> first | rfl | contradiction), congrArg Value.bool (by rw [e2.out]; cases g3 <;> cases r3 <;> cases r4 <;> first | rfl | contradiction), hPA3, hAB3, hbA3⟩
            case measure => simp [intOf]; omega
      · have hk6' : k = 6 := by omega
        subst hk6'
        clear hk hP hB HN HX
        have hE' := hE
        generalize andTo (nOk x ff) 6 = g1 at *
        generalize andTo (tOk x ff) 6 = g2 at *
        generalize andTo (fun i => nF x ff i && tF x ff i) 6 = g3 at *
        have hE2 : Hid (cmdE x = if g1 = true then if g2 = true then if g3 = true then 0 else 3 else 7 else 6) := hE'
        clear hE hE'
        cases g1
        · have hq : Hid (cmdE x = 6) := hE2
          clear hE2
          go_wp2_with (fail)
          go_ret
          exact ⟨ret_int hq.out.symm, hb.out⟩
        cases g2
        · have hq : Hid (cmdE x = 7) := hE2
          clear hE2
          go_wp2_with (fail)
          go_ret
          exact ⟨ret_int hq.out.symm, hb.out⟩
        cases g3
        · have hq : Hid (cmdE x = 3) := hE2
          clear hE2
          go_wp2_with (fail)
          go_ret
          exact ⟨ret_int hq.out.symm, hb.out⟩
        · have hq : Hid (cmdE x = 0) := hE2
          clear hE2
          go_wp2_with (fail)
          go_ret
          exact ⟨ret_int hq.out.symm, hb.out⟩

end Go.Proofs.YtdgbpmbknlhgmaaGreatDoor
