/-
The walk through quote.Quote.
-/
import Derived.Test.YtdgbpmbknlhgmaaDoorQuoteA
import Derived.BigCall
set_option linter.unusedVariables false
set_option linter.unusedSimpArgs false
namespace Go.Proofs.YtdgbpmbknlhgmaaDoor
open Go.RowKit Qt

def toL (s : ByteArray) : List UInt8 := s.data.toList
theorem str_toL (s : ByteArray) : str (toL s) = s := by
  apply ByteArray.ext
  show s.data.toList.toArray = s.data
  simp only [Array.toArray_toList]
theorem toL_str (l : List UInt8) : toL (str l) = l := by simp [str, toL]
theorem toL_size (s : ByteArray) : (toL s).length = s.size := by rw [toL, Array.length_toList]; rfl
theorem cut_eq (s : ByteArray) (p q : Nat) (h : p ≤ q) : s.extract p q = str (((toL s).drop p).take (q - p)) := by
  apply ByteArray.ext
  apply Array.toList_inj.1
  show (s.extract p q).data.toList = ((s.data.toList.drop p).take (q - p)).toArray.toList
  rw [ByteArray.data_extract, Array.toList_extract, List.extract_eq_take_drop]
theorem piece_len (l : List UInt8) (h : l ≠ []) : (piece l).length ≤ 5 := by
  have := dec_pos l h
  unfold piece
  split
  · rw [List.length_cons, List.length_take]; omega
  · split
    · exact (by decide : 4 ≤ 5)
    · rw [List.length_take]; omega
theorem strCells_str (l : List UInt8) : Lib.strCells (str l) = Lib.byteCells l := rfl
theorem decodeGo_str (l : List UInt8) (h : l ≠ []) : Lib.decodeGo (str l) = dec l := by
  have : (str l).size ≠ 0 := by rw [str_size]; exact fun e => h (List.eq_nil_of_length_eq_zero e)
  unfold Lib.decodeGo
  rw [if_neg this, dec_at]
  rfl

theorem isBuilder_below {T e : TypeId} {B b : Nat} {bs : List Value} {W W' : World} (h : Lib.IsBuilderF T e B b bs W) (hb : Below W.heap.size W W') : Lib.IsBuilderF T e B b bs W' := by
  have k : ∀ {p}, Lib.BuilderAtF T e B b p bs W → Lib.BuilderAtF T e B b p bs W' := by
    intro p h
    have hlt := h.lt
    obtain ⟨hB, v, hv, hown, hne⟩ := h
    exact ⟨hB, v, (hb.block b hlt).trans hv, hown.kept (row := none) ⟨hb.os, hb.tape, hb.output, hb.size, fun k hk _ => hb.block k hk⟩ (Classical.em _), hne⟩
  exact h.elim (fun x => .inl (k x)) (fun x => .inr (k x))

set_option maxHeartbeats 4000000 in
set_option maxRecDepth 1000000 in
theorem quote_calls (s : ByteArray) (w : World) (hs : s.size ≤ 1000000) (hT : Lib.Utf8Tabs 0 1 w) :
    Calls Tryd.prog 13 #[.string s] w fun e w' => e = .returned (.string (str (quote (toL s)))) ∧ Below w.heap.size w w' := by
  go_enter Tryd.func13, Tryd.ntmps13
  have hB0 : Lib.IsBuilderF 70 5 w.heap.size w.heap.size (Lib.byteCells []) (w.alloc (.cells #[.pointer none, .slice none 0 0] 70)) := Lib.IsBuilderF.of (Lib.fresh_isBuilder 70 5 w)
  go_wp2_with (go_at_call 44; refine (writeByte_k w.heap.size w.heap.size _ 34 _ hB0 (by simp [Lib.byteCells]) (by simp)).mono ?_)
  rintro e W0 ⟨rfl, h0, b0, k0⟩
  have hs0 : w.heap.size < W0.heap.size := by
    have := b0.size; simp at this; exact this
  go_wp2
  go_loopw [] (fun wr => ∃ (pos : Nat) (acc : List UInt8), Lib.IsBuilderF 70 5 w.heap.size w.heap.size (Lib.byteCells acc) wr ∧ wr.heap[W0.heap.size]? = some (.stringIter s pos) ∧ Below w.heap.size w wr ∧ Hid (acc ++ body ((toL s).drop pos) = 34 :: body (toL s)) ∧ acc.length ≤ 1 + 5 * pos ∧ pos ≤ s.size) (fun wr => s.size - wr.iterPos W0.heap.size)
  case atStart =>
    have hbw : Below w.heap.size w W0 := ((Below.refl _ w).alloc (Nat.le_refl _) _).trans b0
    refine ⟨0, [34], ?_, ?_, hbw.alloc (by omega) _, rfl, by simp, by omega⟩
    · exact (Lib.IsBuilderF.alloc (Or.inr h0) _)
    · simpa using World.iter_heap W0 s 0
  case round =>
    obtain ⟨pos, acc, hI, hit, hbw, hacc, hal, hps⟩ := hrel
    have hsz : W0.heap.size < wr.heap.size := (Array.getElem?_eq_some_iff.1 hit).1
    by_cases hp : pos < s.size
    · have hnx : ∀ ty, (Instr.next (.pointer (some ⟨W0.heap.size, 0, none⟩)) true ty).run Tryd.prog wr = _ := fun ty => Lib.run_next_any_at wr W0.heap.size s pos ty hit hp
      have hne : (toL s).drop pos ≠ [] := by
        intro e
        have := congrArg List.length e
        rw [List.length_drop, toL_size] at this
        simp at this; omega
      have hdp := dec_pos _ hne
      rw [List.length_drop, toL_size] at hdp
      rw [dec_at] at hnx
      have hgo : Lib.decodeGo (s.extract pos s.size) = dec ((toL s).drop pos) := by
        rw [cut_eq s pos s.size (by omega), List.take_of_length_le (by rw [List.length_drop, toL_size]; exact Nat.le_refl _), decodeGo_str _ hne]
      have hcut : s.extract pos (pos + (dec ((toL s).drop pos)).2) = str (((toL s).drop pos).take (dec ((toL s).drop pos)).2) := by
        rw [cut_eq _ _ _ (by omega), show pos + (dec ((toL s).drop pos)).2 - pos = (dec ((toL s).drop pos)).2 by omega]
      have hbs : Hid (body ((toL s).drop pos) = piece ((toL s).drop pos) ++ body (((toL s).drop (pos + (dec ((toL s).drop pos)).2)))) := by
        show _ = _
        rw [body_step _ hne, List.drop_drop]
      have hpl := piece_len _ hne
      have hesc := escape_calls _ hne
      rw [show s.data.toList = toL s from rfl] at hnx
      generalize (toL s).drop pos = t at *
      generalize dec t = d at *
      obtain ⟨r, n⟩ := d
      simp only at *
      have hI2 := hI.iterAt hit (pos + n)
      have hit2 := Lib.iterAt_heap wr W0.heap.size s pos (pos + n) hit
      have hbw2 := Lib.below_iterAt hbw (k := W0.heap.size) (by omega) s (pos + n)
      have hsz2 : w.heap.size < (wr.iterAt W0.heap.size s (pos + n)).heap.size := by rw [Lib.iterAt_size]; omega
      generalize wr.iterAt W0.heap.size s (pos + n) = wa at *
      go_wp2_with (go_at_call 45; refine (Tryd.utf8_DecodeRuneInString _ _ ((Utf8Tabs_below hT hbw2))).mono ?_)
      rintro e W1 ⟨rfl, hb1⟩
      have hI3 := isBuilder_below hI2 hb1
      have hit3 : W1.heap[W0.heap.size]? = some (.stringIter s (pos + n)) := (hb1.block _ (Array.getElem?_eq_some_iff.1 hit2).1).trans hit2
      have hbw3 := hbw2.trans (hb1.mono (by omega))
      have hz1 := hb1.size
      rw [hgo]
      go_wp2_with (rw [hcut]; go_at_call 47; refine (hesc _).mono ?_)
      rintro e W2 ⟨rfl, hb2⟩
      have hI4 := isBuilder_below hI3 hb2
      have hit4 : W2.heap[W0.heap.size]? = some (.stringIter s (pos + n)) := (hb2.block _ (Array.getElem?_eq_some_iff.1 hit3).1).trans hit3
      have hbw4 := hbw3.trans (hb2.mono (by omega))
      have hz2 := hb2.size
      go_wp2_with (go_at_call 46; refine (writeString_k w.heap.size w.heap.size _ _ _ hI4 (by rw [Lib.byteCells_length, str_size]; omega) (by omega)).mono ?_)
      rintro e W3 ⟨rfl, h3, b3, k3⟩
      rw [strCells_str, ← Lib.byteCells_append] at h3
      have hit5 := k3.iter hit4 (by omega)
      go_wp2
      go_roundw
      case rel =>
        refine ⟨pos + n, acc ++ piece t, Or.inr h3, hit5, hbw4.trans b3, ?_, by rw [List.length_append]; omega, by omega⟩
        show _ = _
        rw [List.append_assoc, ← hbs.out, hacc.out]
      case measure =>
        simp only [World.iterPos, hit5, hit]
        omega
    · have hnx : ∀ ty, (Instr.next (.pointer (some ⟨W0.heap.size, 0, none⟩)) true ty).run Tryd.prog wr = _ := fun ty => Lib.run_next_end_at wr W0.heap.size s pos ty hit hp
      have hend : acc = 34 :: body (toL s) := by
        have := hacc.out
        rw [List.drop_eq_nil_of_le (by rw [toL_size]; omega), body_nil, List.append_nil] at this
        exact this
      go_wp2_with (go_at_call 44; refine (writeByte_k w.heap.size w.heap.size _ 34 _ hI (by rw [Lib.byteCells_length]; omega) (by omega)).mono ?_)
      rintro e W1 ⟨rfl, h1, b1, k1⟩
      have hq : Lib.byteCells acc ++ [Value.int .u8 34] = Lib.byteCells (quote (toL s)) := by
        rw [hend, show quote (toL s) = (34 :: body (toL s)) ++ [34] from rfl, Lib.byteCells_append]; rfl
      rw [hq] at h1
      have hz1 := b1.size
      have hbw2 := hbw.trans b1
      go_wp2_with (go_at_call 48; refine (Tryd.Builder_String_any_k w.heap.size w.heap.size _ _ (Or.inr h1) (by omega)).mono ?_)
      rintro e W2 ⟨rfl, _, b2, _⟩
      go_wp2
      go_ret
      exact ⟨rfl, hbw2.trans b2⟩
end Go.Proofs.YtdgbpmbknlhgmaaDoor
