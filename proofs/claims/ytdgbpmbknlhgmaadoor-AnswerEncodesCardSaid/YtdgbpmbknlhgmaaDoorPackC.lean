/-
The walks through pack.Writer.
-/
import Derived.Test.YtdgbpmbknlhgmaaDoorPackB
set_option linter.unusedVariables false
set_option linter.unusedSimpArgs false
namespace Go.Proofs.YtdgbpmbknlhgmaaDoor
open Go.RowKit Qt Vm

/-- a writer at a block, and what was put. -/
def WrAt (w : World) (g : Nat) (l : List UInt8) : Prop := ∃ A n c, Blk w g 54 #[.slice A n c] ∧ BAt w A n l
theorem WrAt.lt {w : World} {g : Nat} {l : List UInt8} (h : WrAt w g l) : g < w.heap.size := h.elim fun _ h => h.elim fun _ h => h.elim fun _ h => h.1.lt
theorem WrAt.below {w w' : World} {g : Nat} {l : List UInt8} (h : WrAt w g l) (hb : Below w.heap.size w w') : WrAt w' g l := by
  obtain ⟨A, n, c, h1, h2⟩ := h
  exact ⟨A, n, c, h1.call hb, h2.below hb⟩
theorem WrAt.alloc {w : World} {g : Nat} {l : List UInt8} (h : WrAt w g l) (o : Obj) : WrAt (w.alloc o) g l := h.below ((Below.refl _ _).alloc (Nat.le_refl _) o)
theorem WrAt.new (w : World) : WrAt (w.alloc (.cells #[.slice none 0 0] 54)) w.heap.size [] := ⟨none, 0, 0, Blk.new _ _ _, Reads.none_⟩
/-- behind a store of a row of the call's own. -/
theorem WrAt.store {w0 w : World} {g : Nat} {v : Value} {A : Option Addr} {k d : Nat} {l : List UInt8} (hB : Blk w g 54 #[v]) (hg : g < w0.heap.size) (h : w.ownsRow w0.heap.size 5 1 (.slice A k d) k (Lib.byteCells l)) :
    WrAt (w.setCell ⟨g, 0, none⟩ (.slice A k d)) g l := by
  refine ⟨A, k, d, hB.set_ 0 _, ?_⟩
  refine ⟨(BAt.own h).1, fun hk => ?_⟩
  obtain ⟨ad, e, hb, hc⟩ := (BAt.own h).2 hk
  subst e
  have hlt := (h.lt ad.block rfl).1
  refine ⟨ad, rfl, by simpa [World.setCell] using hb, fun j u hj => ?_⟩
  rw [← hc j u hj]
  refine World.cell?_setCell_other w _ _ _ (fun e => ?_)
  have := congrArg Addr.block e
  rw [block_of_add] at this
  simp only at this
  omega
theorem writer_grown {w w1 : World} {g : Nat} (hb : Below w.heap.size w w1) (u : Value) : w.grownBy (w1.setCell ⟨g, 0, none⟩ u) (some g) := only_setCell (only_of_below hb (some g)) (.inl rfl) u

set_option maxHeartbeats 1000000 in
set_option maxRecDepth 100000 in
theorem number_calls (g : Nat) (l : List UInt8) (x : Int) (w : World) (h0 : 0 ≤ x) (h1 : x < 9223372036854775808) (hl : l.length ≤ 1000000) (h : WrAt w g l) :
    Calls Tryd.prog 70 #[.pointer (some ⟨g, 0, none⟩), .int .i64 x] w fun e w' => e = .returned (.tuple #[]) ∧ WrAt w' g (l ++ vb x.toNat) ∧ w.grownBy w' (some g) := by
  obtain ⟨m, rfl⟩ := Int.eq_ofNat_of_zero_le h0
  rw [Int.toNat_natCast]
  have hlt := h.lt
  obtain ⟨A, n, c, hB, hA⟩ := h
  have hln := hA.len
  have H := Lib.hid (put_calls A n c l m w (by omega) (by omega) hA)
  obtain ⟨kc, kf, _⟩ := hB.facts
  have hB' := Lib.hid hB
  have hg := Lib.hid hlt
  clear hA hB hln hlt
  go_enter Tryd.func70, Tryd.ntmps70
  go_wp2_with (fail)
  refine H.out.mono ?_
  rintro e w1 ⟨B, k, d, rfl, hown, hb1⟩
  have hB1 := hB'.out.call hb1
  clear kc kf
  obtain ⟨kc, kf, hlt⟩ := hB1.facts
  have hown' := Lib.hid hown
  have hb1' := Lib.hid hb1
  have hB1' := Lib.hid hB1
  clear hown hb1 hB1 H
  go_wp2
  go_end0
  exact ⟨rfl, WrAt.store hB1'.out hg.out hown'.out, writer_grown hb1'.out _⟩

set_option maxHeartbeats 1000000 in
set_option maxRecDepth 100000 in
theorem wraw_calls (g : Nat) (l : List UInt8) (A2 : Option Addr) (n2 c2 : Nat) (s : List UInt8) (w : World) (hl : l.length ≤ 900000) (hs : n2 ≤ 90000) (h : WrAt w g l) (h2 : BAt w A2 n2 s) :
    Calls Tryd.prog 109 #[.pointer (some ⟨g, 0, none⟩), .slice A2 n2 c2] w fun e w' => e = .returned (.tuple #[]) ∧ WrAt w' g (l ++ (Fv.txt s).bytes) ∧ w.grownBy w' (some g) := by
  obtain ⟨i0, hi, hz0, hz1, hz2⟩ := info_parts bByte
  have hlt := h.lt
  have hsl := h2.len
  obtain ⟨A, n, c, hB, hA⟩ := h
  have hln := hA.len
  have hv9 := vb_len9 (n := n2) (by omega)
  have H := Lib.hid (put_calls A n c l n2 w (by omega) (by omega) hA)
  obtain ⟨kc, kf, _⟩ := hB.facts
  have hB' := Lib.hid hB
  have hg := Lib.hid hlt
  have h2' := Lib.hid h2
  have hsl' := Lib.hid hsl
  clear hA hB hln hlt h2 hsl
  go_enter Tryd.func109, Tryd.ntmps109
  go_wp2_with (fail)
  refine H.out.mono ?_
  rintro e w1 ⟨B, k, d, rfl, hown, hb1⟩
  have hB1 := hB'.out.call hb1
  clear kc kf
  obtain ⟨kc, kf, hlt⟩ := hB1.facts
  have hk : k ≤ 900009 := by have := hown.1; rw [Lib.byteCells_length, List.length_append] at this; omega
  have hown' := Lib.hid hown
  have hb1' := Lib.hid hb1
  have hB1' := Lib.hid hB1
  clear hown hb1 hB1 H
  go_wp2_with (at_builtin; refine wpList_append_any _ rfl _ _ 36 rfl w.heap.size 5 i0 _ 1 1 Tryd.underlying36 hi hz0 hz1 hz2 rfl (by omega) (.slice B k d) k _ rfl hown'.out w1.heap.size A2 n2 c2 _ rfl (h2'.out.below hb1'.out) (bytes_one s) (by simp only [maxLen]; omega) (by omega) hb1'.out.size ?_)
  intro v' w2 hown2 hgrow _
  have hb2 : Hid (Below w.heap.size w w2) := hb1'.out.grown hgrow hb1'.out.size (fun k hk => (hown'.out.lt k hk).1)
  have hB2 : Blk w2 g 54 #[.slice A n c] := hB'.out.call hb2.out
  clear kc kf hlt
  obtain ⟨kc, kf, hlt⟩ := hB2.facts
  obtain ⟨A', c', rfl⟩ := own_form hown2
  have hown3 : Hid (w2.ownsRow w.heap.size 5 1 (.slice A' (k + n2) c') (k + n2) (Lib.byteCells (l ++ (Fv.txt s).bytes))) := by
    show World.ownsRow _ _ _ _ _ _ _
    have e : Lib.byteCells (l ++ (Fv.txt s).bytes) = Lib.byteCells (l ++ vb n2) ++ Lib.byteCells s := by
      show Lib.byteCells (l ++ (vb s.length ++ s)) = _
      rw [hsl'.out, ← Lib.byteCells_append, List.append_assoc]
    rw [e]; exact hown2
  have hB2' := Lib.hid hB2
  clear hown2 hgrow hB2
  go_wp2
  go_end0
  exact ⟨rfl, WrAt.store hB2'.out hg.out hown3.out, writer_grown hb2.out _⟩

set_option maxHeartbeats 1000000 in
set_option maxRecDepth 100000 in
theorem wtext_calls (g : Nat) (l : List UInt8) (s : ByteArray) (w : World) (hl : l.length ≤ 900000) (hs : s.size ≤ 90000) (h : WrAt w g l) :
    Calls Tryd.prog 72 #[.pointer (some ⟨g, 0, none⟩), .string s] w fun e w' => e = .returned (.tuple #[]) ∧ WrAt w' g (l ++ (Fv.txt (toL s)).bytes) ∧ w.grownBy w' (some g) := by
  obtain ⟨cap, W2, hcv, hb2, hlt, hcells⟩ := to_bytes w s
  have hlen := toL_size s
  have hat : BAt W2 (some ⟨w.heap.size, 0, none⟩) s.size (toL s) := by
    refine ⟨by rw [Lib.byteCells_length]; omega, fun hn => ⟨_, rfl, hlt, fun j u hj => ?_⟩⟩
    have hj2 : j < s.size := by
      rcases Nat.lt_or_ge j s.size with h | h
      · exact h
      · rw [List.getElem?_eq_none (by rw [Lib.byteCells_length]; omega)] at hj; cases hj
    rw [byteCells_at _ _ (by omega)] at hj
    cases hj
    have ha : Addr.add ⟨w.heap.size, 0, none⟩ j = ⟨w.heap.size, j, none⟩ := by unfold Addr.add; split <;> simp_all
    rw [ha]; exact hcells j hj2
  have H := Lib.hid (wraw_calls g l (some ⟨w.heap.size, 0, none⟩) s.size cap (toL s) W2 hl hs (h.below hb2) hat)
  have hb2' := Lib.hid hb2
  have hg := Lib.hid h.lt
  clear hcells hat h hb2 hlt hlen
  go_enter Tryd.func72, Tryd.ntmps72
  go_wp2_with (fail)
  refine H.out.mono ?_
  rintro e w3 ⟨rfl, h3, hg3⟩
  go_wp2_with (fail)
  go_end0
  exact ⟨rfl, h3, ⟨hg3.os.trans hb2'.out.os, hg3.tape.trans hb2'.out.tape, hg3.output.trans hb2'.out.output, Nat.le_trans hb2'.out.size hg3.size, fun k hk hne => (hg3.block k (Nat.lt_of_lt_of_le hk hb2'.out.size) hne).trans (hb2'.out.block k hk)⟩⟩

set_option maxHeartbeats 1000000 in
set_option maxRecDepth 100000 in
theorem wflag_calls (g : Nat) (l : List UInt8) (b : Bool) (w : World) (hl : l.length ≤ 1000000) (h : WrAt w g l) :
    Calls Tryd.prog 71 #[.pointer (some ⟨g, 0, none⟩), .bool b] w fun e w' => e = .returned (.tuple #[]) ∧ WrAt w' g (l ++ (Fv.flag b).bytes) ∧ w.grownBy w' (some g) := by
  cases b
  · have H := number_calls g l 0 w (by omega) (by omega) hl h
    rw [show vb (Int.toNat 0) = (Fv.flag false).bytes by rw [show Int.toNat 0 = 0 from rfl, vb_small (by omega)]; rfl] at H
    have G := Lib.hid H
    clear H h
    go_enter Tryd.func71, Tryd.ntmps71
    go_wp2_with (fail)
    refine G.out.mono ?_
    rintro e w1 ⟨rfl, h1, h2⟩
    go_wp2_with (fail)
    go_end0
    exact ⟨rfl, h1, h2⟩
  · have H := number_calls g l 1 w (by omega) (by omega) hl h
    rw [show vb (Int.toNat 1) = (Fv.flag true).bytes by rw [show Int.toNat 1 = 1 from rfl, vb_small (by omega)]; rfl] at H
    have G := Lib.hid H
    clear H h
    go_enter Tryd.func71, Tryd.ntmps71
    go_wp2_with (fail)
    refine G.out.mono ?_
    rintro e w1 ⟨rfl, h1, h2⟩
    go_wp2_with (fail)
    go_end0
    exact ⟨rfl, h1, h2⟩

set_option maxHeartbeats 1000000 in
set_option maxRecDepth 100000 in
theorem wbytes_calls (g : Nat) (l : List UInt8) (w : World) (hl : l.length ≤ 1000000) (h : WrAt w g l) :
    Calls Tryd.prog 37 #[.pointer (some ⟨g, 0, none⟩)] w fun e w' => ∃ B k d, e = .returned (.slice B k d) ∧ w'.ownsRow w.heap.size 5 1 (.slice B k d) k (Lib.byteCells l) ∧ Below w.heap.size w w' := by
  obtain ⟨A, n, c, hB, hA⟩ := h
  have hln := hA.len
  have H := Lib.hid (clone_calls A n c l w (by omega) hA)
  obtain ⟨kc, kf, hlt⟩ := hB.facts
  clear hA hB hln
  go_enter Tryd.func37, Tryd.ntmps37
  go_wp2_with (fail)
  refine H.out.mono ?_
  rintro e w1 ⟨B, d, rfl, hown, hb1⟩
  have hown' := Lib.hid hown
  clear hown
  go_wp2_with (fail)
  go_ret
  exact ⟨B, n, d, rfl, hown'.out, hb1⟩
end Go.Proofs.YtdgbpmbknlhgmaaDoor
