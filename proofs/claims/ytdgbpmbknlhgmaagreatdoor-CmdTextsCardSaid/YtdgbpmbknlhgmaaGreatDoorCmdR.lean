/-
The walk through cmd.Parse. (Printed by gen_cmdr.py.)
-/
import Derived.Test.YtdgbpmbknlhgmaaGreatDoorCmdQ
import Derived.Lib.Hide
set_option linter.unusedVariables false
set_option linter.unusedSimpArgs false
namespace Go.Proofs.YtdgbpmbknlhgmaaGreatDoor
open Go.RowKit Qt Vm

theorem cmdtext_any (x : CX) (w : World) (hs : x.short) (hv : AVars w) :
    Calls Tryz.prog 23 #[x.value] w fun e w' => e = .returned (.string (str (if cmdE x = 0 then cmdT x else []))) ∧ Below w.heap.size w w' := by
  by_cases h : cmdE x = 0
  · rw [if_pos h]; exact cmdtext_ok x w hv h
  · rw [if_neg h]; exact cmdtext_no x w hs hv.q.tab h
/-- what a call of Parse comes to. -/
def ParC (l : List UInt8) (e : Ending) : Prop := (∃ x, parseC l = some x ∧ e = .returned (.tuple #[x.value, .int .i64 0])) ∨ (parseC l = none ∧ e = .returned (.tuple #[.agg #[.int .i64 0, .int .i64 0, .int .i64 0, .string ⟨#[]⟩, .string ⟨#[]⟩, .string ⟨#[]⟩, .int .i64 0], .int .i64 3]))
theorem below_sevenR {w W : World} (h : Below w.heap.size w W) (a0 a1 a2 a3 a4 a5 a6 : Value) : Below w.heap.size w (((((((W.setCell ⟨w.heap.size, 0, none⟩ a0).setCell ⟨w.heap.size, 1, none⟩ a1).setCell ⟨w.heap.size, 2, none⟩ a2).setCell ⟨w.heap.size, 3, none⟩ a3).setCell ⟨w.heap.size, 4, none⟩ a4).setCell ⟨w.heap.size, 5, none⟩ a5).setCell ⟨w.heap.size, 6, none⟩ a6) :=
  ((((((h.setCell (Nat.le_refl _) _).setCell (Nat.le_refl _) _).setCell (Nat.le_refl _) _).setCell (Nat.le_refl _) _).setCell (Nat.le_refl _) _).setCell (Nat.le_refl _) _).setCell (Nat.le_refl _) _
/-- texts in memory, less the first. -/
theorem tx_tail {w : World} {A : Option Addr} {n c : Nat} {a : List UInt8} {r : List (List UInt8)} (h : TxAt w A n (a :: r)) (hc : n ≤ c) : TxAt w (if c = 1 then A else A.map fun x => x.add (1 * 1)) (n - 1) r := by
  have hl := h.len
  have := Reads.cut (k := 1) (cap := c) h (by simp only [List.length_cons] at hl; omega) hc
  exact this
theorem tx_set {w : World} {A : Option Addr} {n : Nat} {ws : List (List UInt8)} {g : Nat} (h : TxAt w A n ws) (hne : ∀ ad, A = some ad → 0 < n → ad.block ≠ g) (i : Nat) (u : Value) : TxAt (w.setCell ⟨g, i, none⟩ u) A n ws := by
  refine ⟨h.1, fun hn => ?_⟩
  obtain ⟨ad, e, hb, hc⟩ := h.2 hn
  refine ⟨ad, e, by simpa [World.setCell] using hb, fun j v hj => ?_⟩
  rw [← hc j v hj]
  refine World.cell?_setCell_other w _ _ _ (fun e2 => hne ad e hn ?_)
  have := congrArg Addr.block e2
  rw [block_of_add] at this
  simpa using this.symm
/-- a text that is none. -/
theorem parseC_bad {l : List UInt8} (h : wdE l ≠ 0) : parseC l = none := by
  unfold parseC; rw [if_neg (fun hc => h hc.1)]
theorem parseC_empty {l : List UInt8} (h : wdL l = []) : parseC l = none := by
  unfold parseC; rw [if_neg (fun hc => hc.2.1 h)]
set_option maxHeartbeats 4000000 in
set_option maxRecDepth 100000 in
theorem cmdparse_bad (l : List UInt8) (w : World) (hl : l.length ≤ 1000000) (hv : EVars w) (h : wdE l ≠ 0 ∨ wdL l = []) :
    Calls Tryz.prog 22 #[.string (str l)] w fun e w' => ParC l e ∧ Below w.heap.size w w' := by
  have hP : Hid (∀ e, e = .returned (.tuple #[.agg #[.int .i64 0, .int .i64 0, .int .i64 0, .string ⟨#[]⟩, .string ⟨#[]⟩, .string ⟨#[]⟩, .int .i64 0], .int .i64 3]) → ParC l e) := fun e he => .inr ⟨by
    rcases h with h | h
    · exact parseC_bad h
    · exact parseC_empty h, he⟩
  obtain ⟨W, hW⟩ : ∃ W, W = w.alloc (.cells #[.int .i64 0, .int .i64 0, .int .i64 0, .string ⟨#[]⟩, .string ⟨#[]⟩, .string ⟨#[]⟩, .int .i64 0] 23) := ⟨_, rfl⟩
  have hbW : Hid (Below w.heap.size w W) := by subst hW; exact (Below.refl _ _).alloc (Nat.le_refl _) _
  have hZ : Hid (Blk W w.heap.size 23 #[.int .i64 0, .int .i64 0, .int .i64 0, .string ⟨#[]⟩, .string ⟨#[]⟩, .string ⟨#[]⟩, .int .i64 0]) := by subst hW; exact Blk.new _ _ _
  have HW := wordsQ_calls (str l) W (by rw [str_size]; exact hl) (hv.below hbW.out).a.q
  rw [toL_str] at HW
  have hc : (wdE l == 0) = false ∨ (wdE l = 0 ∧ wdL l = []) := by
    by_cases h0 : wdE l = 0
    · exact .inr ⟨h0, h.resolve_left (fun hn => hn h0)⟩
    · exact .inl (beq_eq_false_iff_ne.2 h0)
  clear hv h
  rcases hc with t1 | ⟨h0, h1⟩
  · generalize wdE l = we at *
    have HW := Lib.hid HW
    go_enter Tryz.func22, Tryz.ntmps22
    go_wp2_with (fail)
    rw [← hW]
    clear hW
    refine HW.out.mono ?_
    rintro e w1 ⟨A, n, c, rfl, hnc, hT, hb⟩
    obtain ⟨k4, f4, l4⟩ := (hZ.out.call hb).facts
    have hb1 : Hid (Below w.heap.size w w1) := hbW.out.trans (hb.mono hbW.out.size)
    clear hT hb HW hbW hZ hnc
    go_wp2_with (fail)
    refine bodyPost_ret (v := .tuple #[.agg #[.int .i64 0, .int .i64 0, .int .i64 0, .string ⟨#[]⟩, .string ⟨#[]⟩, .string ⟨#[]⟩, .int .i64 0], .int .i64 3]) (by simp [results, Tryz.results22, go_sem, k4, l4]) rfl ⟨hP.out _ rfl, ?_⟩
    exact below_sevenR hb1.out _ _ _ _ _ _ _
  · rw [h0] at HW
    have h1' := Lib.hid h1
    have HW := Lib.hid HW
    clear h0 h1
    go_enter Tryz.func22, Tryz.ntmps22
    go_wp2_with (fail)
    rw [← hW]
    clear hW
    refine HW.out.mono ?_
    rintro e w1 ⟨A, n, c, rfl, hnc, hT, hb⟩
    have hn0 : n = 0 := by have := hT.len; rw [h1'.out] at this; exact this.symm
    subst hn0
    obtain ⟨k4, f4, l4⟩ := (hZ.out.call hb).facts
    have hb1 : Hid (Below w.heap.size w w1) := hbW.out.trans (hb.mono hbW.out.size)
    clear hT hb HW hbW hZ hnc
    go_wp2_with (fail)
    refine bodyPost_ret (v := .tuple #[.agg #[.int .i64 0, .int .i64 0, .int .i64 0, .string ⟨#[]⟩, .string ⟨#[]⟩, .string ⟨#[]⟩, .int .i64 0], .int .i64 3]) (by simp [results, Tryz.results22, go_sem, k4, l4]) rfl ⟨hP.out _ rfl, ?_⟩
    exact below_sevenR hb1.out _ _ _ _ _ _ _

set_option maxHeartbeats 8000000 in
set_option maxRecDepth 100000 in
theorem cmdparse_ws (l : List UInt8) (t0 : List UInt8) (r : List (List UInt8)) (w : World) (hl : l.length ≤ 1000000) (hv : EVars w) (h0 : wdE l = 0) (h1 : wdL l = t0 :: r) :
    Calls Tryz.prog 22 #[.string (str l)] w fun e w' => ParC l e ∧ Below w.heap.size w w' := by
  have hwi := readC_within h0
  have hjn := wdL_join h0
  rw [h1] at hwi hjn
  have hwl : ∀ t ∈ t0 :: r, t.length ≤ 1000000 := fun t ht => by
    have := join_mem _ t ht
    rw [hjn.1] at this
    omega
  have hlne : l ≠ [] := by
    rintro rfl
    rw [show wdL [] = [] from rfl] at h1
    cases h1
  have hQ : Hid (∀ X : CX, readC (t0 :: r) = X → ∀ T, (if cmdE X = 0 then cmdT X else []) = T → ∀ e, (T = l ∧ e = .returned (.tuple #[X.value, .int .i64 0])) ∨ (T ≠ l ∧ e = .returned (.tuple #[.agg #[.int .i64 0, .int .i64 0, .int .i64 0, .string ⟨#[]⟩, .string ⟨#[]⟩, .string ⟨#[]⟩, .int .i64 0], .int .i64 3])) → ParC l e) := by
    show ∀ X, _
    rintro X rfl T rfl e he
    unfold ParC parseC
    rw [h1]
    by_cases hz : cmdE (readC (t0 :: r)) = 0
    · rw [if_pos hz] at he
      rcases he with ⟨ht, he⟩ | ⟨ht, he⟩
      · rw [if_pos ⟨h0, List.cons_ne_nil _ _, hz, ht⟩]
        exact .inl ⟨_, rfl, he⟩
      · rw [if_neg (fun hc => ht hc.2.2.2)]
        exact .inr ⟨rfl, he⟩
    · rw [if_neg hz] at he
      rw [if_neg (fun hc => hz hc.2.2.1)]
      rcases he with ⟨ht, he⟩ | ⟨ht, he⟩
      · exact absurd ht.symm hlne
      · exact .inr ⟨rfl, he⟩
  obtain ⟨W, hW⟩ : ∃ W, W = w.alloc (.cells #[.int .i64 0, .int .i64 0, .int .i64 0, .string ⟨#[]⟩, .string ⟨#[]⟩, .string ⟨#[]⟩, .int .i64 0] 23) := ⟨_, rfl⟩
  have hbW : Hid (Below w.heap.size w W) := by subst hW; exact (Below.refl _ _).alloc (Nat.le_refl _) _
  have hZ : Hid (Blk W w.heap.size 23 #[.int .i64 0, .int .i64 0, .int .i64 0, .string ⟨#[]⟩, .string ⟨#[]⟩, .string ⟨#[]⟩, .int .i64 0]) := by subst hW; exact Blk.new _ _ _
  have HW := wordsQ_calls (str l) W (by rw [str_size]; exact hl) (hv.below hbW.out).a.q
  rw [toL_str, h0, h1] at HW
  have HW := Lib.hid HW
  have hv' := Lib.hid hv
  have hkl := kindTo_le t0
  have HF := Lib.hid (fun i hi x (w1 : World) g t hl hv hB => fill_calls i hi x w1 g t hl hv hB)
  have HT := Lib.hid (fun (w1 : World) (h : AVars w1) => cmdtext_any (readC (t0 :: r)) w1 ⟨Nat.le_trans hwi.1 hl, Nat.le_trans hwi.2.1 hl, Nat.le_trans hwi.2.2 hl⟩ h)
  have hwl' := Lib.hid hwl
  clear hv h0 h1 hwi hjn hlne hwl
  go_enter Tryz.func22, Tryz.ntmps22
  go_wp2_with (fail)
  rw [← hW]
  clear hW
  refine HW.out.mono ?_
  rintro e w1 ⟨A, n, c, rfl, hnc, hT, hb⟩
  have hlen := hT.len
  have en : ((n : Int) == 0) = false := beq_eq_false_iff_ne.2 (by simp only [List.length_cons] at hlen; omega)
  have hn1 : (1 : Int) ≤ (n : Int) := by simp only [List.length_cons] at hlen; omega
  have hn0 : (0 : Int) < (n : Int) := by omega
  obtain ⟨b1, o1, rfl, hbb, _⟩ := hT.at_ (by omega)
  obtain ⟨g, hgd⟩ : ∃ g, g = w1.heap.size := ⟨_, rfl⟩
  obtain ⟨X, hX⟩ : ∃ X, X = w1.alloc (.cells #[.int .i64 0, .int .i64 0, .int .i64 0, .string ⟨#[]⟩, .string ⟨#[]⟩, .string ⟨#[]⟩, .int .i64 0] 23) := ⟨_, rfl⟩
  have hbX : Below w1.heap.size w1 X := by subst hX; exact (Below.refl _ _).alloc (Nat.le_refl _) _
  have hg1 : Hid (Blk X g 23 #[.int .i64 0, .int .i64 0, .int .i64 0, .string ⟨#[]⟩, .string ⟨#[]⟩, .string ⟨#[]⟩, .int .i64 0]) := by subst hX hgd; exact Blk.new _ _ _
  have hZ1 := Lib.hid ((hZ.out.call hb).call hbX)
  have hT1 := Lib.hid (TxAt.below hT hbX)
  have hb1 : Hid (Below w.heap.size w X) := (hbW.out.trans (hb.mono hbW.out.size)).trans (hbX.mono (Nat.le_trans hbW.out.size hb.size))
  have hwg : w.heap.size < g := by have := hZ.out.lt; have := hb.size; omega
  have hbg : b1 < g := by omega
  have hnc' := Lib.hid hnc
  have hlen' := Lib.hid hlen
  clear hT hb hbX HW hbW hZ hbb hnc hlen
  go_wp2_with (fail)
  rw [← hX, ← hgd]
  clear hX hgd
  go_loopw [7] (fun i wr => ∃ k : Nat, 1 ≤ k ∧ k ≤ 9 ∧ i = .int .i64 (k : Int) ∧ Hid (Blk wr g 23 #[.int .i64 ((kindTo t0 (k - 1) : Nat) : Int), .int .i64 0, .int .i64 0, .string ⟨#[]⟩, .string ⟨#[]⟩, .string ⟨#[]⟩, .int .i64 0]) ∧ Hid (Blk wr w.heap.size 23 #[.int .i64 0, .int .i64 0, .int .i64 0, .string ⟨#[]⟩, .string ⟨#[]⟩, .string ⟨#[]⟩, .int .i64 0]) ∧ Hid (TxAt wr (some ⟨b1, o1, none⟩) n (t0 :: r)) ∧ Hid (Below w.heap.size w wr)) (fun i _ => 9 - (intOf i).toNat)
  case atStart => exact ⟨1, by omega, by omega, rfl, hg1.out, hZ1, hT1, hb1⟩
  case round =>
    obtain ⟨k, hk1, hk9, rfl, hg, hZ, hT, hb⟩ := hrel
    clear hg1 hZ1 hT1 hb1
    by_cases hk8 : k ≤ 8
    · have d1 : decide ((k : Int) ≤ 8) = true := decide_eq_true (by omega)
      have HN := Lib.hid (fun w1 => name_calls k hk8 w1)
      obtain ⟨b2, o2, he, hbb, hcc⟩ := hT.out.at_ (by have := hlen'.out; simp only [List.length_cons] at this; omega)
      injection he with he
      injection he with he1 he2
      subst he1 he2
      have c0 := hcc 0 (by have := hlen'.out; simp only [List.length_cons] at this; omega)
      rw [Nat.add_zero] at c0
      have c0 : wr.cell? ⟨b1, o1, none⟩ = some (.string (str t0)) := c0
      have ek : kindTo t0 k = if nameN k = t0 then k else kindTo t0 (k - 1) := by
        obtain ⟨q, rfl⟩ : ∃ q, k = q + 1 := ⟨k - 1, by omega⟩
        rfl
      have ek := Lib.hid ek
      obtain ⟨kc, kf, hlt⟩ := hg.out.facts
      clear hcc hbb
      by_cases hnm : nameN k = t0
      · have e1 : ((str (nameN k)).toList == (str t0).toList) = true := by rw [hnm]; exact beq_self_eq_true _
        have ek2 : Hid (kindTo t0 k = k) := by show _ = _; rw [ek.out, if_pos hnm]
        clear ek hnm
        generalize nameN k = nm at *
        go_wp2_with (fail)
        go_quiet ((go_at_call 54; exact quiet_left (HN.out _)))
        go_wp2_with (fail)
        go_roundw
        case rel => exact ⟨k + 1, by omega, by omega, by go_num, by rw [Nat.add_sub_cancel, ek2.out]; exact (hg.out.drewN _).set_ 0 _, (hZ.out.drewN _).far (by simp; omega) _, tx_set (hT.out.drewN _) (fun ad e _ => by cases e; simp; omega) 0 _, (below_drewN hb.out _).setCell (by simp; omega) _⟩
        case measure => simp [intOf]; omega
      · have e1 : ((str (nameN k)).toList == (str t0).toList) = false := by rw [beq_eq_false_iff_ne, str_toList, str_toList]; exact hnm
        have ek2 : Hid (kindTo t0 k = kindTo t0 (k - 1)) := by show _ = _; rw [ek.out, if_neg hnm]
        clear ek hnm
        generalize nameN k = nm at *
        go_wp2_with (fail)
        go_quiet ((go_at_call 54; exact quiet_left (HN.out _)))
        go_wp2_with (fail)
        go_roundw
        case rel => exact ⟨k + 1, by omega, by omega, by go_num, by rw [Nat.add_sub_cancel, ek2.out]; exact hg.out.drewN _, hZ.out.drewN _, hT.out.drewN _, below_drewN hb.out _⟩
        case measure => simp [intOf]; omega
    · have hk9' : k = 9 := by omega
      subst hk9'
      have ekd : ∃ kd, Hid (((kindTo t0 8 : Nat) : Int) = kd) := ⟨_, rfl⟩
      obtain ⟨kd, ekd⟩ := ekd
      have hg : Hid (Blk wr g 23 #[.int .i64 kd, .int .i64 0, .int .i64 0, .string ⟨#[]⟩, .string ⟨#[]⟩, .string ⟨#[]⟩, .int .i64 0]) := by rw [← ekd.out]; exact hg.out
      have hR : Hid ((fillTo kd r 6).1 = readC (t0 :: r)) := by show _ = _; rw [← ekd.out]; rfl
      have hst : Hid (fillTo kd r 0 = (⟨kd, 0, 0, [], [], [], 0⟩, r)) := rfl
      have hkd := Lib.hid (fun k => fillTo_kind kd r k)
      have hst2 := Lib.hid (fun k => (show fillTo kd r (k + 1) = if hasB kd k = true ∧ (fillTo kd r k).2 ≠ [] then ((fillTo kd r k).1.fill k ((fillTo kd r k).2.headD []), (fillTo kd r k).2.tail) else fillTo kd r k from rfl))
      have hbig := Lib.hid (fun k => (fillTo_within kd r 1000000 (fun t ht => hwl'.out t (List.mem_cons_of_mem _ ht)) k).2)
      have hrl : r.length = n - 1 := by have := hlen'.out; simp only [List.length_cons] at this; omega
      have hcase : (c = 1 ∧ r = [] ∧ n = 1) ∨ ((c = 1) = False ∧ TxAt wr (some ⟨b1, o1 + 1, none⟩) (n - 1) r) := by
        by_cases hc : c = 1
        · left
          have := hnc'.out
          have hn' : n = 1 := by omega
          exact ⟨hc, List.eq_nil_of_length_eq_zero (by omega), hn'⟩
        · right
          have := tx_tail hT.out hnc'.out
          rw [if_neg hc] at this
          exact ⟨eq_false hc, this⟩
      have hcl := hnc'.out
      clear hkl hT ekd en hrl
      rcases hcase with ⟨hc1, hr0, hnn⟩ | ⟨hc1, hT⟩
      all_goals
        go_wp2_with (fail)
        refine (parts_blk _).mono ?_
        rintro e w3 ⟨rfl, hP, hb9⟩
        have hgl := hg.out.lt
        obtain ⟨pb, hpb⟩ : ∃ pb, pb = wr.heap.size := ⟨_, rfl⟩
        rw [← hpb] at hP ⊢
        have hpg : pb ≠ g := by omega
        have hP3 := Lib.hid hP
        have hg3 : Hid (Blk w3 g 23 (fillTo kd r 0).1.cells) := hg.out.call hb9
        have hZ3 := Lib.hid (hZ.out.call hb9)
        have hb3 : Hid (Below w.heap.size w w3) := hb.out.trans (hb9.mono hb.out.size)
        first
          | (have hT3 : Hid (TxAt w3 (some ⟨b1, o1 + 1, none⟩) (n - 1) (fillTo kd r 0).2) := TxAt.below hT hb9)
          | (have hT3 : ∀ A : Option Addr, Hid (TxAt w3 A 0 (fillTo kd r 0).2) := fun A => by show TxAt _ _ _ r; rw [hr0]; exact ⟨by simp [sc], fun h => absurd h (by omega)⟩)
        clear hP hb9 hg hZ hb hpb hgl
        go_wp2_with (fail)
        go_loopw [41, 8] (fun i rs wr => ∃ (k n' c' : Nat) (A' : Option Addr), k ≤ 6 ∧ i = .int .i64 (k : Int) ∧ rs = .slice A' n' c' ∧ n' ≤ c' ∧ (∀ ad, A' = some ad → ad.block = b1) ∧ Hid (TxAt wr A' n' (fillTo kd r k).2) ∧ Hid (Blk wr pb 75 partsC) ∧ Hid (Blk wr g 23 (fillTo kd r k).1.cells) ∧ Hid (Blk wr w.heap.size 23 #[.int .i64 0, .int .i64 0, .int .i64 0, .string ⟨#[]⟩, .string ⟨#[]⟩, .string ⟨#[]⟩, .int .i64 0]) ∧ Hid (Below w.heap.size w wr)) (fun i _ _ => 6 - (intOf i).toNat)
        case atStart =>
          first
            | exact ⟨0, _, _, _, by omega, rfl, rfl, by omega, fun ad e => by cases e; rfl, hT3, hP3, hg3, hZ3, hb3⟩
            | exact ⟨0, 0, _, _, by omega, rfl, by subst hc1 hnn; rfl, by omega, fun ad e => by cases e; rfl, hT3 _, hP3, hg3, hZ3, hb3⟩
        case round =>
          obtain ⟨k, n', c', A', hk, rfl, rfl, hn', hA', hT, hP, hg, hZ, hb⟩ := hrel
          clear hP3 hg3 hZ3 hb3 hT3
          by_cases hk6 : k < 6
          · obtain ⟨p0, p1, p2, p3⟩ := (PartsAt.of hP.out).1 k hk6
            have plt := hP.out.lt
            have hWa := wanted_calls k 2 kd
            have hkk := hkd.out k
            have e1 := Lib.hid (hst2.out k)
            have hbgk := hbig.out k
            have hFk := fun x (w1 : World) g t hl hv hB => HF.out k hk6 x w1 g t hl hv hB
            rw [show wantB k 2 kd = hasB kd k from rfl] at hWa
            generalize fillTo kd r k = L at *
            generalize hasB kd k = wt at *
            simp only [partA] at hWa hFk
            obtain ⟨kc, kf, hlt⟩ := hg.out.facts
            have c0 := kc 0
            simp only [List.getElem?_toArray, List.getElem?_cons_zero, List.getElem?_cons_succ] at c0
            rw [hkk] at c0
            have hgr : w.heap.size ≤ wr.heap.size := hb.out.size
            clear kc hkk
            rcases pIs_cases k with hpi | ⟨fn, hpi⟩
            · rw [hpi] at p2 hWa hFk
              have hWa := Lib.hid hWa
              have hFk := Lib.hid hFk
              clear hpi
              go_wp2_with (fail)
              clear p0 p1 p2 p3 plt c0 kf hlt
              obtain ⟨WA, hWA⟩ : ∃ WA, WA = wr.alloc (.cells #[.int .i64 (pHas k), .int .i64 (pMost k), .nilFunc, .func (.func (pFn k)) #[] #[]] 75) := ⟨_, rfl⟩
              obtain ⟨pg, hpgd⟩ : ∃ pg, pg = wr.heap.size := ⟨_, rfl⟩
              rw [← hWA, ← hpgd]
              have hbA : Hid (Below wr.heap.size wr WA) := by subst hWA; exact (Below.refl _ _).alloc (Nat.le_refl _) _
              have hAP : Hid (Blk WA pg 75 #[.int .i64 (pHas k), .int .i64 (pMost k), .nilFunc, .func (.func (pFn k)) #[] #[]]) := by subst hWA hpgd; exact Blk.new _ _ _
              clear hWA hpgd
              refine (hWa.out WA).mono ?_
              rintro e wa ⟨rfl, hb9⟩
              have hba : Below wr.heap.size wr wa := hbA.out.trans (hb9.mono hbA.out.size)
              have hAP2 := Lib.hid (hAP.out.call hb9)
              have hP2 := Lib.hid (hP.out.call hba)
              have hB2 := Lib.hid (hg.out.call hba)
              have hZ2 := Lib.hid (hZ.out.call hba)
              have hT2 := Lib.hid (TxAt.below hT.out hba)
              have hb2 : Hid (Below w.heap.size w wa) := hb.out.trans (hba.mono hgr)
              clear hb9 hbA hba hAP hP hg hZ hT hb hWa
              cases wt
              · have e2 : Hid (fillTo kd r (k + 1) = L) := by show _ = _; rw [e1.out, if_neg (fun h => Bool.false_ne_true h.1)]
                clear e1 hFk
                go_wp2_with (fail)
                go_roundw
                case rel => exact ⟨k + 1, n', c', A', by omega, by go_num, rfl, hn', hA', by rw [e2.out]; exact hT2, hP2, by rw [e2.out]; exact hB2, hZ2, hb2⟩
                case measure => simp [intOf]; omega
              · rcases Nat.eq_zero_or_pos n' with hn0 | hn0
                · have e2 : Hid (fillTo kd r (k + 1) = L) := by
                    show _ = _
                    rw [e1.out, if_neg (fun h => h.2 (List.eq_nil_of_length_eq_zero (by have := hT2.out.len; omega)))]
                  subst hn0
                  clear e1 hFk
                  go_wp2_with (fail)
                  go_roundw
                  case rel => exact ⟨k + 1, 0, c', A', by omega, by go_num, rfl, hn', hA', by rw [e2.out]; exact hT2, hP2, by rw [e2.out]; exact hB2, hZ2, hb2⟩
                  case measure => simp [intOf]; omega
                · obtain ⟨y, rs⟩ := L
                  cases rs with
                  | nil => exact absurd hT2.out.len (by simp; omega)
                  | cons t ts =>
                    have e2 : Hid (fillTo kd r (k + 1) = (y.fill k t, ts)) := by show _ = _; rw [e1.out, if_pos ⟨rfl, List.cons_ne_nil _ _⟩]; rfl
                    have htl := hbgk t (List.mem_cons_self ..)
                    obtain ⟨b3, o3, rfl, hb3b, hcc⟩ := hT2.out.at_ hn0
                    have hb3e : b3 = b1 := hA' _ rfl
                    subst hb3e
                    have ct := hcc 0 hn0
                    rw [Nat.add_zero] at ct
                    have ct : wa.cell? ⟨b3, o3, none⟩ = some (.string (str t)) := ct
                    have d1 : ((0 : Int) < (n' : Int)) := by omega
                    have dd1 : decide ((0 : Int) < (n' : Int)) = true := decide_eq_true d1
                    have dl1 : (1 : Int) ≤ (n' : Int) := by omega
                    have q0 : ∀ d os, (Sort.grow (redrawn wa d) os).cell? ⟨pg, 0, none⟩ = some _ := cell_regrown (hAP2.out.cell 0)
                    have q1 : ∀ d os, (Sort.grow (redrawn wa d) os).cell? ⟨pg, 1, none⟩ = some _ := cell_regrown (hAP2.out.cell 1)
                    have q2 : ∀ d os, (Sort.grow (redrawn wa d) os).cell? ⟨pg, 2, none⟩ = some _ := cell_regrown (hAP2.out.cell 2)
                    have q3 : ∀ d os, (Sort.grow (redrawn wa d) os).cell? ⟨pg, 3, none⟩ = some _ := cell_regrown (hAP2.out.cell 3)
                    have q4 : ∀ d os, (Sort.grow (redrawn wa d) os).cell? ⟨b3, o3, none⟩ = some (.string (str t)) := cell_regrown ct
                    have hTt := tx_tail hT2.out hn'
                    clear e1 hcc ct hbgk
                    go_wp2_with (fail)
                    refine wp_region_below_tail 4 (by kernel_rfl) (by kernel_rfl) ?_
                    simp only [List.take_succ_cons, List.take_zero, List.drop_succ_cons, List.drop_zero]
                    repeat (go_big_quiet_step ((fail)))
                    refine wpQuiet_nil ?_
                    intro W2 hW2
                    have hBw := hB2.out.call hW2
                    have hvW := hv'.out.below (hb2.out.trans (hW2.mono hb2.out.size))
                    have hP3 := Lib.hid (hP2.out.call hW2)
                    have hZ3 := Lib.hid (hZ2.out.call hW2)
                    have hT3 := Lib.hid (TxAt.below hTt hW2)
                    have hb4 := Lib.hid (hb2.out.trans (hW2.mono hb2.out.size))
                    clear q0 q1 q2 q3 q4
                    go_wp2_with (fail)
                    refine (hFk.out y W2 g t htl hvW hBw).mono ?_
                    rintro e wb ⟨rfl, hBb, wm, u, o, hbm, rfl⟩
                    have hP5 : Hid (Blk (wm.setCell ⟨g, o, none⟩ u) pb 75 partsC) := (hP3.out.call hbm).far (by simpa using hpg) u
                    have hZ5 : Hid (Blk (wm.setCell ⟨g, o, none⟩ u) w.heap.size 23 #[.int .i64 0, .int .i64 0, .int .i64 0, .string ⟨#[]⟩, .string ⟨#[]⟩, .string ⟨#[]⟩, .int .i64 0]) := (hZ3.out.call hbm).far (by simp; omega) u
                    have hB5 : Hid (Blk (wm.setCell ⟨g, o, none⟩ u) g 23 (fillTo kd r (k + 1)).1.cells) := by rw [e2.out]; exact hBb
                    have hb5 : Hid (Below w.heap.size w (wm.setCell ⟨g, o, none⟩ u)) := (hb4.out.trans (hbm.mono hb4.out.size)).setCell (by simp; omega) u
                    have hTm := TxAt.below hT3.out hbm
                    by_cases hc1 : c' = 1
                    · subst hc1
                      have hn1' : n' = 1 := by omega
                      subst hn1'
                      have hts : ts = [] := List.eq_nil_of_length_eq_zero (by have := hTm.len; simpa using this)
                      have hT5 : ∀ A : Option Addr, Hid (TxAt (wm.setCell ⟨g, o, none⟩ u) A 0 (fillTo kd r (k + 1)).2) := fun A => by show TxAt _ _ _ _; rw [e2.out, hts]; exact ⟨by simp [sc], fun h => absurd h (by omega)⟩
                      generalize wm.setCell ⟨g, o, none⟩ u = wb at *
                      clear hBb hbm hP3 hZ3 hT3 hb4 hTm e2 hTt hT2 hAP2 hP2 hB2 hZ2 hb2 hFk
                      go_wp2_with (fail)
                      go_roundw
                      case rel => exact ⟨k + 1, 0, _, _, by omega, by go_num, rfl, Nat.zero_le _, hA', hT5 _, hP5, hB5, hZ5, hb5⟩
                      case measure => simp [intOf]; omega
                    · rw [if_neg hc1] at hTm
                      have hT5 : Hid (TxAt (wm.setCell ⟨g, o, none⟩ u) (some ⟨b3, o3 + 1, none⟩) (n' - 1) (fillTo kd r (k + 1)).2) := by
                        show TxAt _ _ _ _
                        rw [e2.out]
                        exact tx_set hTm (fun ad e _ => by cases e; show b3 ≠ g; omega) o u
                      have hc1' : (c' = 1) = False := eq_false hc1
                      generalize wm.setCell ⟨g, o, none⟩ u = wb at *
                      clear hBb hbm hP3 hZ3 hT3 hb4 hTm e2 hTt hT2 hAP2 hP2 hB2 hZ2 hb2 hFk
                      go_wp2_with (fail)
                      go_roundw
                      case rel => exact ⟨k + 1, n' - 1, c' - 1, some ⟨b3, o3 + 1, none⟩, by omega, by go_num, rfl, by omega, fun ad e => by cases e; rfl, hT5, hP5, hB5, hZ5, hb5⟩
                      case measure => simp [intOf]; omega
            · rw [hpi] at p2 hWa hFk
              have hWa := Lib.hid hWa
              have hFk := Lib.hid hFk
              clear hpi
              go_wp2_with (fail)
              clear p0 p1 p2 p3 plt c0 kf hlt
              obtain ⟨WA, hWA⟩ : ∃ WA, WA = wr.alloc (.cells #[.int .i64 (pHas k), .int .i64 (pMost k), .func (.func fn) #[] #[], .func (.func (pFn k)) #[] #[]] 75) := ⟨_, rfl⟩
              obtain ⟨pg, hpgd⟩ : ∃ pg, pg = wr.heap.size := ⟨_, rfl⟩
              rw [← hWA, ← hpgd]
              have hbA : Hid (Below wr.heap.size wr WA) := by subst hWA; exact (Below.refl _ _).alloc (Nat.le_refl _) _
              have hAP : Hid (Blk WA pg 75 #[.int .i64 (pHas k), .int .i64 (pMost k), .func (.func fn) #[] #[], .func (.func (pFn k)) #[] #[]]) := by subst hWA hpgd; exact Blk.new _ _ _
              clear hWA hpgd
              refine (hWa.out WA).mono ?_
              rintro e wa ⟨rfl, hb9⟩
              have hba : Below wr.heap.size wr wa := hbA.out.trans (hb9.mono hbA.out.size)
              have hAP2 := Lib.hid (hAP.out.call hb9)
              have hP2 := Lib.hid (hP.out.call hba)
              have hB2 := Lib.hid (hg.out.call hba)
              have hZ2 := Lib.hid (hZ.out.call hba)
              have hT2 := Lib.hid (TxAt.below hT.out hba)
              have hb2 : Hid (Below w.heap.size w wa) := hb.out.trans (hba.mono hgr)
              clear hb9 hbA hba hAP hP hg hZ hT hb hWa
              cases wt
              · have e2 : Hid (fillTo kd r (k + 1) = L) := by show _ = _; rw [e1.out, if_neg (fun h => Bool.false_ne_true h.1)]
                clear e1 hFk
                go_wp2_with (fail)
                go_roundw
                case rel => exact ⟨k + 1, n', c', A', by omega, by go_num, rfl, hn', hA', by rw [e2.out]; exact hT2, hP2, by rw [e2.out]; exact hB2, hZ2, hb2⟩
                case measure => simp [intOf]; omega
              · rcases Nat.eq_zero_or_pos n' with hn0 | hn0
                · have e2 : Hid (fillTo kd r (k + 1) = L) := by
                    show _ = _
                    rw [e1.out, if_neg (fun h => h.2 (List.eq_nil_of_length_eq_zero (by have := hT2.out.len; omega)))]
                  subst hn0
                  clear e1 hFk
                  go_wp2_with (fail)
                  go_roundw
                  case rel => exact ⟨k + 1, 0, c', A', by omega, by go_num, rfl, hn', hA', by rw [e2.out]; exact hT2, hP2, by rw [e2.out]; exact hB2, hZ2, hb2⟩
                  case measure => simp [intOf]; omega
                · obtain ⟨y, rs⟩ := L
                  cases rs with
                  | nil => exact absurd hT2.out.len (by simp; omega)
                  | cons t ts =>
                    have e2 : Hid (fillTo kd r (k + 1) = (y.fill k t, ts)) := by show _ = _; rw [e1.out, if_pos ⟨rfl, List.cons_ne_nil _ _⟩]; rfl
                    have htl := hbgk t (List.mem_cons_self ..)
                    obtain ⟨b3, o3, rfl, hb3b, hcc⟩ := hT2.out.at_ hn0
                    have hb3e : b3 = b1 := hA' _ rfl
                    subst hb3e
                    have ct := hcc 0 hn0
                    rw [Nat.add_zero] at ct
                    have ct : wa.cell? ⟨b3, o3, none⟩ = some (.string (str t)) := ct
                    have d1 : ((0 : Int) < (n' : Int)) := by omega
                    have dd1 : decide ((0 : Int) < (n' : Int)) = true := decide_eq_true d1
                    have dl1 : (1 : Int) ≤ (n' : Int) := by omega
                    have q0 : ∀ d os, (Sort.grow (redrawn wa d) os).cell? ⟨pg, 0, none⟩ = some _ := cell_regrown (hAP2.out.cell 0)
                    have q1 : ∀ d os, (Sort.grow (redrawn wa d) os).cell? ⟨pg, 1, none⟩ = some _ := cell_regrown (hAP2.out.cell 1)
                    have q2 : ∀ d os, (Sort.grow (redrawn wa d) os).cell? ⟨pg, 2, none⟩ = some _ := cell_regrown (hAP2.out.cell 2)
                    have q3 : ∀ d os, (Sort.grow (redrawn wa d) os).cell? ⟨pg, 3, none⟩ = some _ := cell_regrown (hAP2.out.cell 3)
                    have q4 : ∀ d os, (Sort.grow (redrawn wa d) os).cell? ⟨b3, o3, none⟩ = some (.string (str t)) := cell_regrown ct
                    have hTt := tx_tail hT2.out hn'
                    clear e1 hcc ct hbgk
                    go_wp2_with (fail)
                    refine wp_region_below_tail 4 (by kernel_rfl) (by kernel_rfl) ?_
                    simp only [List.take_succ_cons, List.take_zero, List.drop_succ_cons, List.drop_zero]
                    repeat (go_big_quiet_step ((fail)))
                    refine wpQuiet_nil ?_
                    intro W2 hW2
                    have hBw := hB2.out.call hW2
                    have hvW := hv'.out.below (hb2.out.trans (hW2.mono hb2.out.size))
                    have hP3 := Lib.hid (hP2.out.call hW2)
                    have hZ3 := Lib.hid (hZ2.out.call hW2)
                    have hT3 := Lib.hid (TxAt.below hTt hW2)
                    have hb4 := Lib.hid (hb2.out.trans (hW2.mono hb2.out.size))
                    clear q0 q1 q2 q3 q4
                    go_wp2_with (fail)
                    refine (hFk.out y W2 g t htl hvW hBw).mono ?_
                    rintro e wb ⟨rfl, hBb, wm, u, o, hbm, rfl⟩
                    have hP5 : Hid (Blk (wm.setCell ⟨g, o, none⟩ u) pb 75 partsC) := (hP3.out.call hbm).far (by simpa using hpg) u
                    have hZ5 : Hid (Blk (wm.setCell ⟨g, o, none⟩ u) w.heap.size 23 #[.int .i64 0, .int .i64 0, .int .i64 0, .string ⟨#[]⟩, .string ⟨#[]⟩, .string ⟨#[]⟩, .int .i64 0]) := (hZ3.out.call hbm).far (by simp; omega) u
                    have hB5 : Hid (Blk (wm.setCell ⟨g, o, none⟩ u) g 23 (fillTo kd r (k + 1)).1.cells) := by rw [e2.out]; exact hBb
                    have hb5 : Hid (Below w.heap.size w (wm.setCell ⟨g, o, none⟩ u)) := (hb4.out.trans (hbm.mono hb4.out.size)).setCell (by simp; omega) u
                    have hTm := TxAt.below hT3.out hbm
                    by_cases hc1 : c' = 1
                    · subst hc1
                      have hn1' : n' = 1 := by omega
                      subst hn1'
                      have hts : ts = [] := List.eq_nil_of_length_eq_zero (by have := hTm.len; simpa using this)
                      have hT5 : ∀ A : Option Addr, Hid (TxAt (wm.setCell ⟨g, o, none⟩ u) A 0 (fillTo kd r (k + 1)).2) := fun A => by show TxAt _ _ _ _; rw [e2.out, hts]; exact ⟨by simp [sc], fun h => absurd h (by omega)⟩
                      generalize wm.setCell ⟨g, o, none⟩ u = wb at *
                      clear hBb hbm hP3 hZ3 hT3 hb4 hTm e2 hTt hT2 hAP2 hP2 hB2 hZ2 hb2 hFk
                      go_wp2_with (fail)
                      go_roundw
                      case rel => exact ⟨k + 1, 0, _, _, by omega, by go_num, rfl, Nat.zero_le _, hA', hT5 _, hP5, hB5, hZ5, hb5⟩
                      case measure => simp [intOf]; omega
                    · rw [if_neg hc1] at hTm
                      have hT5 : Hid (TxAt (wm.setCell ⟨g, o, none⟩ u) (some ⟨b3, o3 + 1, none⟩) (n' - 1) (fillTo kd r (k + 1)).2) := by
                        show TxAt _ _ _ _
                        rw [e2.out]
                        exact tx_set hTm (fun ad e _ => by cases e; show b3 ≠ g; omega) o u
                      have hc1' : (c' = 1) = False := eq_false hc1
                      generalize wm.setCell ⟨g, o, none⟩ u = wb at *
                      clear hBb hbm hP3 hZ3 hT3 hb4 hTm e2 hTt hT2 hAP2 hP2 hB2 hZ2 hb2 hFk
                      go_wp2_with (fail)
                      go_roundw
                      case rel => exact ⟨k + 1, n' - 1, c' - 1, some ⟨b3, o3 + 1, none⟩, by omega, by go_num, rfl, by omega, fun ad e => by cases e; rfl, hT5, hP5, hB5, hZ5, hb5⟩
                      case measure => simp [intOf]; omega
          · have hk6' : k = 6 := by omega
            subst hk6'
            obtain ⟨Xc, hXc⟩ : ∃ X, Hid (readC (t0 :: r) = X) := ⟨_, rfl⟩
            have hgX : Hid (Blk wr g 23 Xc.cells) := by rw [← hXc.out, ← hR.out]; exact hg.out
            obtain ⟨T, hTT⟩ : ∃ T, Hid ((if cmdE Xc = 0 then cmdT Xc else []) = T) := ⟨_, rfl⟩
            have hQX := Lib.hid (hQ.out Xc hXc.out T hTT.out)
            have HTX := HT.out
            rw [hXc.out, hTT.out] at HTX
            have HTX := Lib.hid HTX
            clear hT hP hg HF HT hQ hTT hXc hR hst hst2 hkd hbig hA'
            obtain ⟨f0, f1, f2, f3, f4, f5, f6⟩ := Xc
            obtain ⟨kc, kf, hlt⟩ := hgX.out.facts
            go_wp2_with (fail)
            refine (HTX.out _ (hv'.out.below hb.out).a).mono ?_
            rintro e w9 ⟨rfl, hb9⟩
            have hgX2 := hgX.out.call hb9
            have hZ9 := hZ.out.call hb9
            have hbz : Hid (Below w.heap.size w w9) := hb.out.trans (hb9.mono hb.out.size)
            clear kc kf hlt hb9 hZ hb HTX hgX
            obtain ⟨k8, f8, l8⟩ := hgX2.facts
            obtain ⟨k2, f2', l2⟩ := hZ9.facts
            clear hgX2 hZ9
            by_cases hTl : T = l
            · have e7 : ((str T).toList == (str l).toList) = true := by rw [hTl]; exact beq_self_eq_true _
              have hTl := Lib.hid hTl
              go_wp2_with (fail)
              refine bodyPost_ret (v := .tuple #[.agg #[.int .i64 f0, .int .i64 f1, .int .i64 f2, .string (str f3), .string (str f4), .string (str f5), .int .i64 f6], .int .i64 0]) (by simp [results, Tryz.results22, go_sem, k2, l2]) rfl ⟨hQX.out _ (.inl ⟨hTl.out, rfl⟩), ?_⟩
              exact below_sevenR hbz.out _ _ _ _ _ _ _
            · have e7 : ((str T).toList == (str l).toList) = false := by rw [beq_eq_false_iff_ne, str_toList, str_toList]; exact hTl
              have hTl := Lib.hid hTl
              go_wp2_with (fail)
              refine bodyPost_ret (v := .tuple #[.agg #[.int .i64 0, .int .i64 0, .int .i64 0, .string ⟨#[]⟩, .string ⟨#[]⟩, .string ⟨#[]⟩, .int .i64 0], .int .i64 3]) (by simp [results, Tryz.results22, go_sem, k2, l2]) rfl ⟨hQX.out _ (.inr ⟨hTl.out, rfl⟩), ?_⟩
              exact below_sevenR hbz.out _ _ _ _ _ _ _
end Go.Proofs.YtdgbpmbknlhgmaaGreatDoor
