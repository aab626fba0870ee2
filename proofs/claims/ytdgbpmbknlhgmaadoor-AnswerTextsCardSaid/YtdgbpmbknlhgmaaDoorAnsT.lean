/-
The walk through answer.Parse.
-/
import Derived.Test.YtdgbpmbknlhgmaaDoorAnsG
import Derived.Test.YtdgbpmbknlhgmaaDoorAtoi
set_option linter.unusedVariables false
set_option linter.unusedSimpArgs false
namespace Go.Proofs.YtdgbpmbknlhgmaaDoor
open Go.RowKit Qt Vm

/-- an answer's six fields. -/
structure AX where
  cl : Int
  sq : Int
  er : Int
  fd : Bool
  vl : List UInt8
  rv : Int
abbrev AX.val (x : AX) : Value := .agg #[.int .i64 x.cl, .int .i64 x.sq, .int .i64 x.er, .bool x.fd, .string (str x.vl), .int .i64 x.rv]

abbrev AX.cells (x : AX) : Array Value := #[.int .i64 x.cl, .int .i64 x.sq, .int .i64 x.er, .bool x.fd, .string (str x.vl), .int .i64 x.rv]
def AX.bad (x : AX) : Int := ansE x.cl x.sq x.er x.vl x.rv
def AX.text (x : AX) : List UInt8 := ansT x.cl.toNat x.sq.toNat x.er.toNat x.fd x.vl x.rv.toNat
/-- the answer that words are read as. -/
def readA (ws : List (List UInt8)) : AX := ⟨atoiZ (ws.getD 0 []), atoiZ (ws.getD 1 []), atoiZ (ws.getD 2 []), decide (ws.getD 4 [] = [121, 101, 115]), uqT (ws.getD 5 []), atoiZ (ws.getD 3 [])⟩
/-- the answer of a text. -/
def parseA (l : List UInt8) : Option AX := if wdE l = 0 ∧ (wdL l).length = 6 ∧ (readA (wdL l)).bad = 0 ∧ (readA (wdL l)).text = l then some (readA (wdL l)) else none
theorem text_any (x : AX) (w : World) (hs : x.vl.length ≤ 1000000) (hv : AVars w) :
    Calls Tryd.prog 43 #[x.val] w fun e w' => e = .returned (.string (str (if x.bad = 0 then x.text else []))) ∧ Below w.heap.size w w' := by
  obtain ⟨cl, sq, er, fd, vl, rv⟩ := x
  by_cases h : ansE cl sq er vl rv = 0
  · obtain ⟨hn, hvl⟩ := ansE_zero h
    obtain ⟨b1, b2, b3, b4, b5, b6, b7, b8⟩ := numsB_bounds hn
    have e : AX.bad ⟨cl, sq, er, fd, vl, rv⟩ = 0 := h
    rw [if_pos e]
    obtain ⟨cl, rfl⟩ := Int.eq_ofNat_of_zero_le (show 0 ≤ cl by omega)
    obtain ⟨sq, rfl⟩ := Int.eq_ofNat_of_zero_le (show 0 ≤ sq by omega)
    obtain ⟨er, rfl⟩ := Int.eq_ofNat_of_zero_le (show 0 ≤ er by omega)
    obtain ⟨rv, rfl⟩ := Int.eq_ofNat_of_zero_le (show 0 ≤ rv by omega)
    exact anstext_ok cl sq er fd vl rv w hv h
  · have e : ¬ AX.bad ⟨cl, sq, er, fd, vl, rv⟩ = 0 := h
    rw [if_neg e]
    exact anstext_no cl sq er fd vl rv w hs hv h

/-- the words of a text, where a variable holds them. -/
def WsAt (w : World) (b : Nat) (ws : List (List UInt8)) : Prop := ∃ A n c, Blk w b 30 #[.slice A n c] ∧ TxAt w A n ws
theorem WsAt.below {w w' : World} {b : Nat} {ws : List (List UInt8)} (h : WsAt w b ws) (hb : Below w.heap.size w w') : WsAt w' b ws := by
  obtain ⟨A, n, c, h1, h2⟩ := h
  exact ⟨A, n, c, h1.call hb, h2.below hb⟩
set_option maxHeartbeats 1000000 in
theorem number_of (i : Nat) (b : Nat) (ws : List (List UInt8)) (w : World) (hv : EVars w) (hi : i < ws.length) (hl : (ws.getD i []).length ≤ 1000000) (h : WsAt w b ws) :
    Calls Tryd.prog 80 #[.int .i64 (i : Int), .pointer (some ⟨b, 0, none⟩)] w fun e w' => e = .returned (.int .i64 (atoiZ (ws.getD i []))) ∧ Below w.heap.size w w' := by
  obtain ⟨A, n, c, hB, hT⟩ := h
  have hlen := hT.len
  obtain ⟨b1, o1, rfl, hb1, hc1⟩ := hT.at_ (by omega)
  have g1 := hc1 i (by omega)
  obtain ⟨kc, kf, hlt⟩ := hB.facts
  have c0 := kc 0
  simp only [List.getElem?_toArray, List.getElem?_cons_zero] at c0
  have H := atoi_calls (str (ws.getD i [])) w (by rw [str_size]; exact hl) hv
  rw [toL_str] at H
  have H := Lib.hid H
  clear hc1 hT hB kc hv
  generalize ws.getD i [] = t at *
  generalize atoiZ t = z at *
  have hin : (i : Int) < (n : Int) := by omega
  have hi0 : (0 : Int) ≤ (i : Int) := by omega
  go_enter Tryd.func80, Tryd.ntmps80
  go_wp2_with (fail)
  refine H.out.mono ?_
  rintro e w1 ⟨ev, rfl, hb⟩
  go_wp2_with (fail)
  go_ret
  exact ⟨rfl, hb⟩
def numAt (ws : List (List UInt8)) (i : Int) : Int := atoiZ (ws.getD i.toNat [])
theorem number_at (i : Int) (b : Nat) (ws : List (List UInt8)) (w : World) (hv : EVars w) (h0 : 0 ≤ i) (hi : i < (ws.length : Int)) (hl : ∀ k, (ws.getD k []).length ≤ 1000000) (h : WsAt w b ws) :
    Calls Tryd.prog 80 #[.int .i64 i, .pointer (some ⟨b, 0, none⟩)] w fun e w' => e = .returned (.int .i64 (numAt ws i)) ∧ Below w.heap.size w w' := by
  obtain ⟨k, rfl⟩ := Int.eq_ofNat_of_zero_le h0
  unfold numAt
  rw [Int.toNat_natCast]
  exact number_of k b ws w hv (by omega) (hl k) h
theorem below_six' {w W : World} (h : Below w.heap.size w W) (a0 a1 a2 a3 a4 a5 : Value) : Below w.heap.size w ((((((W.setCell ⟨w.heap.size, 0, none⟩ a0).setCell ⟨w.heap.size, 1, none⟩ a1).setCell ⟨w.heap.size, 2, none⟩ a2).setCell ⟨w.heap.size, 3, none⟩ a3).setCell ⟨w.heap.size, 4, none⟩ a4).setCell ⟨w.heap.size, 5, none⟩ a5) :=
  (((((h.setCell (Nat.le_refl _) _).setCell (Nat.le_refl _) _).setCell (Nat.le_refl _) _).setCell (Nat.le_refl _) _).setCell (Nat.le_refl _) _).setCell (Nat.le_refl _) _
theorem text_ne {x : AX} {l : List UInt8} (hl : l ≠ []) : (if x.bad = 0 then x.text else []) = l ↔ x.bad = 0 ∧ x.text = l := by
  by_cases h : x.bad = 0
  · rw [if_pos h]; exact ⟨fun e => ⟨h, e⟩, fun e => e.2⟩
  · rw [if_neg h]; exact ⟨fun e => absurd e.symm hl, fun e => absurd e.1 h⟩

theorem belT {a b c : World} (h : Below a.heap.size a b) (k : Below b.heap.size b c) : Below a.heap.size a c := h.trans (k.mono h.size)
set_option maxHeartbeats 40000000 in
set_option maxRecDepth 100000 in
/-- six words. -/
theorem parse_six (l : List UInt8) (w : World) (hl : l.length ≤ 1000000) (hv : EVars w) (h0 : wdE l = 0) (h6 : (wdL l).length = 6) :
    Calls Tryd.prog 42 #[.string (str l)] w fun e w' => ((∃ x, parseA l = some x ∧ e = .returned (.tuple #[x.val, .int .i64 0])) ∨ (parseA l = none ∧ e = .returned (.tuple #[.agg #[.int .i64 0, .int .i64 0, .int .i64 0, .bool false, .string ⟨#[]⟩, .int .i64 0], .int .i64 3]))) ∧ Below w.heap.size w w' := by
  obtain ⟨hj, _⟩ := wdL_join h0
  have hne : l ≠ [] := by
    rintro rfl
    rw [show wdL [] = [] from rfl] at h6
    cases h6
  have hlen := getD_len hj
  have hP : Hid (parseA l = if (readA (wdL l)).bad = 0 ∧ (readA (wdL l)).text = l then some (readA (wdL l)) else none) := by
    show _ = _
    unfold parseA
    by_cases hc : (readA (wdL l)).bad = 0 ∧ (readA (wdL l)).text = l
    · rw [if_pos hc, if_pos ⟨h0, h6, hc⟩]
    · rw [if_neg hc, if_neg (fun h => hc h.2.2)]
  obtain ⟨W, hW⟩ : ∃ W, W = w.alloc (.cells #[.int .i64 0, .int .i64 0, .int .i64 0, .bool false, .string ⟨#[]⟩, .int .i64 0] 38) := ⟨_, rfl⟩
  have hbW : Hid (Below w.heap.size w W) := by subst hW; exact (Below.refl _ _).alloc (Nat.le_refl _) _
  have hZ : Hid (Blk W w.heap.size 38 #[.int .i64 0, .int .i64 0, .int .i64 0, .bool false, .string ⟨#[]⟩, .int .i64 0]) := by subst hW; exact Blk.new _ _ _
  have HW := wordsQ_calls (str l) W (by rw [str_size]; exact hl) (hv.below hbW.out).a.q
  rw [toL_str, h0] at HW
  have HW := Lib.hid HW
  have hv' := Lib.hid hv
  have htx := Lib.hid (text_ne (x := readA (wdL l)) hne)
  have HT := Lib.hid (fun w1 (h : AVars w1) => text_any (readA (wdL l)) w1 (Nat.le_trans (uqT_len _) (Nat.le_trans (hlen 5) hl)) h)
  have hsl := str_size l
  generalize wdL l = ws at *
  have hlen' := Lib.hid (fun k => Nat.le_trans (hlen k) hl)
  obtain ⟨t4, h4⟩ : ∃ t4, Hid (ws.getD 4 [] = t4) := ⟨_, rfl⟩
  obtain ⟨t5, h5⟩ : ∃ t5, Hid (ws.getD 5 [] = t5) := ⟨_, rfl⟩
  have HU := fun w1 (h : AVars w1) => unquote_calls (str t5) w1 (by rw [str_size, ← h5.out]; exact hlen'.out 5) h.q.tab
  rw [toL_str] at HU
  have HU := Lib.hid HU
  obtain ⟨bb, hbb⟩ : ∃ bb, Hid (decide (t4 = [121, 101, 115]) = bb) := ⟨_, rfl⟩
  have hrd : Hid (readA ws = ⟨numAt ws 0, numAt ws 1, numAt ws 2, bb, uqT t5, numAt ws 3⟩) := by show _ = _; rw [← hbb.out, ← h4.out, ← h5.out]; rfl
  have h6' := Lib.hid h6
  clear hv hj hlen hne hl h0 h6
  go_enter Tryd.func42, Tryd.ntmps42
  go_wp2_with (fail)
  rw [← hW]
  clear hW
  refine HW.out.mono ?_
  rintro e w1 ⟨A, n, c, rfl, hnc, hT, hb⟩
  have hn6 : n = 6 := by have := hT.len; have := h6'.out; omega
  have e6 : ((n : Int) == 6) = true := by rw [hn6]; decide
  have i5 : (5 : Int) < (n : Int) := by omega
  have i4 : (4 : Int) < (n : Int) := by omega
  have hn0 : 0 < n := by omega
  clear hn6
  obtain ⟨b1, o1, rfl, _, _⟩ := hT.at_ hn0
  obtain ⟨X, hX⟩ : ∃ X, X = w1.alloc (.cells #[.slice (some ⟨b1, o1, none⟩) n c] 30) := ⟨_, rfl⟩
  obtain ⟨bl, hbl⟩ : ∃ bl, bl = w1.heap.size := ⟨_, rfl⟩
  have hbX : Below w1.heap.size w1 X := by subst hX; exact (Below.refl _ _).alloc (Nat.le_refl _) _
  have hL1 : Hid (Blk X bl 30 #[.slice (some ⟨b1, o1, none⟩) n c]) := by subst hX hbl; exact Blk.new _ _ _
  have hT1 := Lib.hid (TxAt.below hT hbX)
  have hZ1 := Lib.hid ((hZ.out.call hb).call hbX)
  have hb1 : Hid (Below w.heap.size w X) := (hbW.out.trans (hb.mono hbW.out.size)).trans (hbX.mono (Nat.le_trans hbW.out.size hb.size))
  have hlt1 : w.heap.size < bl := by have := hZ.out.lt; have := hb.size; omega
  obtain ⟨b2, o2, he, hbb, hcc⟩ := hT1.out.at_ hn0
  injection he with he
  injection he with he1 he2
  subst he1 he2
  have c4 := hcc 4 (by omega)
  have c5 := hcc 5 (by omega)
  rw [h4.out] at c4
  rw [h5.out] at c5
  obtain ⟨kc, kf, hlt⟩ := hL1.out.facts
  rw [hX] at kc kf hlt c4 c5
  rw [hbl] at kc kf hlt
  clear hT hb hbX HW hbW hZ hnc hcc
  go_wp2_with (fail)
  rw [← hX, ← hbl]
  rw [← hX] at kc kf hlt c4 c5
  rw [← hbl] at kc kf hlt
  clear hX hbl
  refine (HU.out _ (hv'.out.below hb1.out).a).mono ?_
  rintro e x1 ⟨rfl, hb⟩
  have hL2 := hL1.out.call hb
  have hT2 := TxAt.below hT1.out hb
  have hW2 : Hid (WsAt x1 bl ws) := ⟨_, _, _, hL2, hT2⟩
  have hZ2 := Lib.hid (hZ1.out.call hb)
  have hb2 : Hid (Below w.heap.size w x1) := hb1.out.trans (hb.mono hb1.out.size)
  have hE : ∀ y, Below x1.heap.size x1 y → EVars y ∧ WsAt y bl ws := fun y hy => ⟨(hv'.out.below hb2.out).below hy, hW2.out.below hy⟩
  have q0 := hL2.cell 0
  simp only [List.getElem?_toArray, List.getElem?_cons_zero] at q0
  have q4 := (hb.cell (p := ⟨b1, o1 + 4, none⟩) hbb).trans c4
  have l0 := hL2.lt
  have l4 : b1 < x1.heap.size := Nat.lt_of_lt_of_le hbb hb.size
  have hS : ∀ y, Below x1.heap.size x1 y → y.cell? ⟨bl, 0, none⟩ = some (.slice (some ⟨b1, o1, none⟩) n c) ∧ y.cell? ⟨b1, o1 + 4, none⟩ = some (.string (str t4)) := fun y hy => ⟨(hy.cell l0).trans q0, (hy.cell l4).trans q4⟩
  have HN := Lib.hid (fun (i : Int) (w1 : World) hv h0 hi h => number_at i bl ws w1 hv h0 hi hlen'.out h)
  rw [h6'.out] at HN
  have hE := Lib.hid hE
  have hS := Lib.hid hS
  obtain ⟨T, hTT⟩ : ∃ T, Hid ((if (readA ws).bad = 0 then (readA ws).text else []) = T) := ⟨_, rfl⟩
  have HT' := HT.out
  rw [hTT.out, hrd.out] at HT'
  rw [hTT.out] at htx
  have HT2 := Lib.hid HT'
  clear hb hL2 hT2 hL1 hT1 hZ1 hb1 kc kf hlt c4 c5 hbb HU hW2 HT HT' h4 h5 hTT q0 q4 l0 l4
  have hx0 : Below x1.heap.size x1 x1.drew := Below.drew (Below.refl _ _)
  have e4 : ((str t4).toList == [121, 101, 115]) = bb := by
    rw [← hbb.out, str_toList]
    by_cases h : t4 = [121, 101, 115]
    · rw [decide_eq_true h, h]; rfl
    · rw [decide_eq_false h, beq_eq_false_iff_ne]; exact h
  clear hbb
  go_wp2_with (fail)
  go_region_held3 (fun w' => w'.cell? ⟨bl, 0, none⟩ = some (.slice (some ⟨b1, o1, none⟩) n c) ∧ w'.cell? ⟨b1, o1 + 4, none⟩ = some (.string (str t4)))
    (exact hS.out _ (by repeat (first | with_reducible assumption | with_reducible exact Below.refl _ _ | with_reducible refine Below.setCell ?_ (by first | exact Nat.le_refl _ | assumption) _ | with_reducible refine belT ?_ (Below.drew (Below.refl _ _)) | with_reducible refine belT ?_ (Below.alloc (Below.refl _ _) (Nat.le_refl _) _))))
    (first | (go_at_call 80; refine (HN.out _ _ (hE.out _ (by repeat (first | with_reducible assumption | with_reducible exact Below.refl _ _ | with_reducible refine Below.setCell ?_ (by first | exact Nat.le_refl _ | assumption) _ | with_reducible refine belT ?_ (Below.drew (Below.refl _ _)) | with_reducible refine belT ?_ (Below.alloc (Below.refl _ _) (Nat.le_refl _) _)))).1 (by omega) (by omega) (hE.out _ (by repeat (first | with_reducible assumption | with_reducible exact Below.refl _ _ | with_reducible refine Below.setCell ?_ (by first | exact Nat.le_refl _ | assumption) _ | with_reducible refine belT ?_ (Below.drew (Below.refl _ _)) | with_reducible refine belT ?_ (Below.alloc (Below.refl _ _) (Nat.le_refl _) _)))).2).mono ?_; rintro e y ⟨rfl, hy⟩; have hy' : Below x1.heap.size x1 y := belT (by repeat (first | with_reducible assumption | with_reducible exact Below.refl _ _ | with_reducible refine Below.setCell ?_ (by first | exact Nat.le_refl _ | assumption) _ | with_reducible refine belT ?_ (Below.drew (Below.refl _ _)) | with_reducible refine belT ?_ (Below.alloc (Below.refl _ _) (Nat.le_refl _) _))) hy; have hs9 : x1.heap.size ≤ y.heap.size := hy'.size; (first | (have hB9 := Blk.call hB9 hy; obtain ⟨k9, f9, l9⟩ := hB9.facts) | (have hB9 := Blk.call (Blk.new _ _ _) hy; obtain ⟨k9, f9, l9⟩ := hB9.facts) | (have hB9 := Blk.call (Blk.drew (Blk.new _ _ _)) hy; obtain ⟨k9, f9, l9⟩ := hB9.facts) | skip)))
  all_goals
    go_wp2_with (fail)
    refine (HT2.out _ (hE.out _ (by repeat (first | with_reducible assumption | with_reducible exact Below.refl _ _ | with_reducible refine Below.setCell ?_ (by first | exact Nat.le_refl _ | assumption) _ | with_reducible refine belT ?_ (Below.drew (Below.refl _ _)) | with_reducible refine belT ?_ (Below.alloc (Below.refl _ _) (Nat.le_refl _) _)))).1.a).mono ?_
    rintro e z ⟨rfl, hz⟩
    have hz' : Below x1.heap.size x1 z := belT (by repeat (first | with_reducible assumption | with_reducible exact Below.refl _ _ | with_reducible refine Below.setCell ?_ (by first | exact Nat.le_refl _ | assumption) _ | with_reducible refine belT ?_ (Below.drew (Below.refl _ _)) | with_reducible refine belT ?_ (Below.alloc (Below.refl _ _) (Nat.le_refl _) _))) hz
    have hbz : Hid (Below w.heap.size w z) := hb2.out.trans (hz'.mono hb2.out.size)
    have hZz := hZ2.out.call hz'
    first
      | ((with_reducible have q := Blk.call (Blk.new _ _ _) hz); have hBz : Blk z _ 38 #[.int .i64 (numAt ws 0), .int .i64 (numAt ws 1), .int .i64 (numAt ws 2), .bool bb, .string (str (uqT t5)), .int .i64 (numAt ws 3)] := q; obtain ⟨k8, f8, l8⟩ := hBz.facts; clear hBz q)
      | ((with_reducible have q := Blk.call ((((((hB9.set_ 0 _).set_ 1 _).set_ 2 _).set_ 3 _).set_ 4 _).set_ 5 _) hz); have hBz : Blk z _ 38 #[.int .i64 (numAt ws 0), .int .i64 (numAt ws 1), .int .i64 (numAt ws 2), .bool bb, .string (str (uqT t5)), .int .i64 (numAt ws 3)] := q; obtain ⟨k8, f8, l8⟩ := hBz.facts; clear hBz q)
    obtain ⟨k2, f2, l2⟩ := hZz.facts
    clear hZz hz hz'
    by_cases hTl : T = l
    · have hp : parseA l = some (readA ws) := by rw [hP.out, if_pos (htx.out.1 hTl)]
      rw [hrd.out] at hp
      have hp := Lib.hid hp
      have e7 : ((str T).toList == (str l).toList) = true := by rw [hTl]; exact beq_self_eq_true _
      clear hTl
      go_wp2_with (fail)
      refine bodyPost_ret (v := .tuple #[.agg #[.int .i64 (numAt ws 0), .int .i64 (numAt ws 1), .int .i64 (numAt ws 2), .bool bb, .string (str (uqT t5)), .int .i64 (numAt ws 3)], .int .i64 0]) (by simp [results, Tryd.results42, go_sem, k2, l2]) rfl ⟨.inl ⟨_, hp.out, rfl⟩, ?_⟩
      exact below_six' hbz.out _ _ _ _ _ _
    · have hp : parseA l = none := by rw [hP.out, if_neg (fun h => hTl (htx.out.2 h))]
      have hp := Lib.hid hp
      have e7 : ((str T).toList == (str l).toList) = false := by rw [beq_eq_false_iff_ne, str_toList, str_toList]; exact hTl
      clear hTl
      go_wp2_with (fail)
      refine bodyPost_ret (v := .tuple #[.agg #[.int .i64 0, .int .i64 0, .int .i64 0, .bool false, .string ⟨#[]⟩, .int .i64 0], .int .i64 3]) (by simp [results, Tryd.results42, go_sem, k2, l2]) rfl ⟨.inr ⟨hp.out, rfl⟩, ?_⟩
      exact below_six' hbz.out _ _ _ _ _ _
end Go.Proofs.YtdgbpmbknlhgmaaDoor
