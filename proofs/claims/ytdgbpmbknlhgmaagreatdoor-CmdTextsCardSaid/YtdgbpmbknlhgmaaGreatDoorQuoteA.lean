/-
The walks through quote.Quote and what it calls.
The walk through quote.Quote.
-/
import Derived.Test.YtdgbpmbknlhgmaaGreatDoorBuilder
import Derived.Test.YtdgbpmbknlhgmaaGreatDoorQuoteMath
import Derived.Lib.QuietBelow
import Derived.BigQuiet
import Derived.Shelf.Unicode.DecodeAny
import Derived.BigCall
set_option linter.unusedVariables false
set_option linter.unusedSimpArgs false
namespace Go.Proofs.YtdgbpmbknlhgmaaGreatDoor
open Go.RowKit Qt

def str (l : List UInt8) : ByteArray := ⟨l.toArray⟩
theorem str_append (a b : List UInt8) : str a ++ str b = str (a ++ b) := by apply ByteArray.ext; simp [str]
theorem str_size (l : List UInt8) : (str l).size = l.length := by simp [str, ByteArray.size]
theorem hex_cut (d : Nat) (h : d < 16) : (⟨#[48, 49, 50, 51, 52, 53, 54, 55, 56, 57, 97, 98, 99, 100, 101, 102]⟩ : ByteArray).extract d (d + 1) = str [hx d] := by
  have : ∀ d, d < 16 → (⟨#[48, 49, 50, 51, 52, 53, 54, 55, 56, 57, 97, 98, 99, 100, 101, 102]⟩ : ByteArray).extract d (d + 1) = str [hx d] := by decide
  exact this d h
theorem u8_and15n (a : Nat) (ha : a < 256) : bits .and .u8 (a : Int) 15 = ((a % 16 : Nat) : Int) := by
  have h := u8_and15 (a : Int) (by omega) (by omega)
  rw [h]; omega

set_option maxHeartbeats 800000 in
theorem byteAs_calls (c : UInt8) (w : World) :
    Calls Tryz.prog 127 #[.int .u8 (c.toNat : Int)] w fun e w' => e = .returned (.string (str (esc c))) ∧ Below w.heap.size w w' := by
  have hc := c.toNat_lt
  have e1 := hex_cut (c.toNat / 16) (by omega)
  have e2 := hex_cut (c.toNat % 16) (by omega)
  have e3 := u8_and15n c.toNat (by omega)
  have e4 : (c.toNat : Int) / 16 = ((c.toNat / 16 : Nat) : Int) := by omega
  have s1 : (str [hx (c.toNat / 16)]).size = 1 := rfl
  have s2 : (str [hx (c.toNat % 16)]).size = 1 := rfl
  have s3 : ((⟨#[92, 120]⟩ : ByteArray) ++ str [hx (c.toNat / 16)]).size = 3 := rfl
  have hcat : Hid (((⟨#[92, 120]⟩ : ByteArray) ++ str [hx (c.toNat / 16)]) ++ str [hx (c.toNat % 16)] = str (esc c)) := by
    show _ = _
    rw [show (⟨#[92, 120]⟩ : ByteArray) = str [92, 120] from rfl, str_append, str_append]; rfl
  have b1 : c.toNat / 16 < 16 := by omega
  have b2 : c.toNat % 16 < 16 := by omega
  generalize hx (c.toNat / 16) = h1 at *
  generalize hx (c.toNat % 16) = h2 at *
  generalize c.toNat % 16 = d2 at *
  generalize c.toNat / 16 = d1 at *
  go_enter Tryz.func127, Tryz.ntmps127
  go_wp2
  go_quiet (fail)
  go_wp2
  go_ret
  exact ⟨ret_str (by rw [hcat.out]), below_drewN (Below.refl _ _) _⟩

theorem i32_eq (a b : Nat) : (((a : Nat) : Int) == ((b : Nat) : Int)) = decide (a = b) := by
  by_cases h : a = b
  · subst h; simp
  · rw [decide_eq_false h, beq_eq_false_iff_ne]; omega
set_option maxHeartbeats 800000 in
theorem escape_calls (l : List UInt8) (hl : l ≠ []) (w : World) :
    Calls Tryz.prog 104 #[.int .i32 ((dec l).1 : Int), .string (str (l.take (dec l).2))] w fun e w' => e = .returned (.string (str (piece l))) ∧ Below w.heap.size w w' := by
  have hp := dec_pos l hl
  have hsz : (str (l.take (dec l).2)).size = (dec l).2 := by rw [str_size, List.length_take]; omega
  have hg : ∀ h : 0 < (str (l.take (dec l).2)).size, (str (l.take (dec l).2))[0]'h = b0 l := by
    have hk : ∀ (m : List UInt8) (h : 0 < (str m).size), (str m)[0]'h = b0 m := by
      intro m h
      cases m with
      | nil => exact absurd h (by decide)
      | cons a m => rfl
    intro h
    rw [hk]
    cases l with
    | nil => exact absurd rfl hl
    | cons a l =>
      obtain ⟨k, hk⟩ : ∃ k, (dec (a :: l)).2 = k + 1 := ⟨_, (Nat.succ_pred_eq_of_pos hp.1).symm⟩
      rw [hk]; rfl
  have hpc : Hid (piece l = if (dec l).1 = 34 ∨ (dec l).1 = 92 then 92 :: l.take (dec l).2
      else if (dec l).1 < 32 ∨ (dec l).1 = 127 ∨ ((dec l).1 = 65533 ∧ (dec l).2 = 1) then esc (b0 l)
      else l.take (dec l).2) := rfl
  have hsa : Hid ((⟨#[92]⟩ : ByteArray) ++ str (l.take (dec l).2) = str (92 :: l.take (dec l).2)) := by
    show _ = _
    rw [show (⟨#[92]⟩ : ByteArray) = str [92] from rfl, str_append]; rfl
  have hsm : (str (l.take (dec l).2)).size < 1000 := by omega
  generalize (dec l).1 = r at *
  generalize (dec l).2 = n at *
  have hs0 : Hid (str (l.take n) = str (l.take n)) := rfl
  generalize hss : str (l.take n) = s at hsz hg hsa hsm ⊢
  have hs1 : Hid (s = str (l.take n)) := hss.symm
  clear hss hs0
  generalize piece l = pc at *
  generalize b0 l = c at *
  have n1 : ((n : Int) == 1) = decide (n = 1) := i32_eq n 1
  have e34 : ((r : Int) == 34) = decide (r = 34) := i32_eq r 34
  have e92 : ((r : Int) == 92) = decide (r = 92) := i32_eq r 92
  have e127 : ((r : Int) == 127) = decide (r = 127) := i32_eq r 127
  have e65 : ((r : Int) == 65533) = decide (r = 65533) := i32_eq r 65533
  go_enter Tryz.func104, Tryz.ntmps104
  by_cases h34 : r = 34
  · rw [decide_eq_true h34] at e34
    go_wp2
    go_ret
    exact ⟨ret_str (by rw [hpc.out, if_pos (by omega), hsa.out]), Below.refl _ _⟩
  rw [decide_eq_false h34] at e34
  by_cases h92 : r = 92
  · rw [decide_eq_true h92] at e92
    go_wp2
    go_ret
    exact ⟨ret_str (by rw [hpc.out, if_pos (by omega), hsa.out]), Below.refl _ _⟩
  rw [decide_eq_false h92] at e92
  by_cases h32 : r < 32
  · have l32 : decide ((r : Int) < 32) = true := by rw [decide_eq_true_eq]; omega
    have h0 : pc = esc c := by rw [hpc.out, if_neg (by omega), if_pos (by omega)]
    go_wp2_with (refine (byteAs_calls c _).mono ?_)
    rintro e w1 ⟨rfl, hb1⟩
    go_wp2
    go_ret
    exact ⟨ret_str (by rw [h0]), hb1⟩
  have l32 : decide ((r : Int) < 32) = false := by rw [decide_eq_false_iff_not]; omega
  by_cases h127 : r = 127
  · rw [decide_eq_true h127] at e127
    have h0 : pc = esc c := by rw [hpc.out, if_neg (by omega), if_pos (by omega)]
    go_wp2_with (refine (byteAs_calls c _).mono ?_)
    rintro e w1 ⟨rfl, hb1⟩
    go_wp2
    go_ret
    exact ⟨ret_str (by rw [h0]), hb1⟩
  rw [decide_eq_false h127] at e127
  by_cases h65 : r = 65533
  · rw [decide_eq_true h65] at e65
    by_cases hn : n = 1
    · rw [decide_eq_true hn] at n1
      have h0 : pc = esc c := by rw [hpc.out, if_neg (by omega), if_pos (by omega)]
      go_wp2_with (refine (byteAs_calls c _).mono ?_)
      rintro e w1 ⟨rfl, hb1⟩
      go_wp2
      go_ret
      exact ⟨ret_str (by rw [h0]), hb1⟩
    · rw [decide_eq_false hn] at n1
      go_wp2
      go_ret
      exact ⟨ret_str (by rw [hpc.out, if_neg (by omega), if_neg (by omega), hs1.out]), Below.refl _ _⟩
  rw [decide_eq_false h65] at e65
  go_wp2
  go_ret
  exact ⟨ret_str (by rw [hpc.out, if_neg (by omega), if_neg (by omega), hs1.out]), Below.refl _ _⟩
end Go.Proofs.YtdgbpmbknlhgmaaGreatDoor
set_option linter.unusedVariables false
set_option linter.unusedSimpArgs false
namespace Go.Proofs.YtdgbpmbknlhgmaaGreatDoor
open Go.RowKit Qt

def toL (s : ByteArray) : List UInt8 := s.data.toList
theorem str_toL (s : ByteArray) : str (toL s) = s := by
  apply ByteArray.ext
  show s.data.toList.toArray = s.data
  simp only [Array.toArray_toList]
theorem toL_str (l : List UInt8) : toL (str l) = l := by simp [str, toL]
theorem toL_size (s : ByteArray) : (toL s).length = s.size := by rw [toL, Array.length_toList]; rfl
theorem cut_eq (s : ByteArray) (p q : Nat) (h : p ≤ q) : s.extract p q = str (((toL s).drop p).take (q - p)) := by
  apply ByteArray.ext
  apply Array.toList_inj.1
  show (s.extract p q).data.toList = ((s.data.toList.drop p).take (q - p)).toArray.toList
  rw [ByteArray.data_extract, Array.toList_extract, List.extract_eq_take_drop]
theorem piece_len (l : List UInt8) (h : l ≠ []) : (piece l).length ≤ 5 := by
  have := dec_pos l h
  unfold piece
  split
  · rw [List.length_cons, List.length_take]; omega
  · split
    · exact (by decide : 4 ≤ 5)
    · rw [List.length_take]; omega
theorem strCells_str (l : List UInt8) : Lib.strCells (str l) = Lib.byteCells l := rfl
theorem decodeGo_str (l : List UInt8) (h : l ≠ []) : Lib.decodeGo (str l) = dec l := by
  have : (str l).size ≠ 0 := by rw [str_size]; exact fun e => h (List.eq_nil_of_length_eq_zero e)
  unfold Lib.decodeGo
  rw [if_neg this, dec_at]
  rfl

theorem isBuilder_below {T e : TypeId} {B b : Nat} {bs : List Value} {W W' : World} (h : Lib.IsBuilderF T e B b bs W) (hb : Below W.heap.size W W') : Lib.IsBuilderF T e B b bs W' := by
  have k : ∀ {p}, Lib.BuilderAtF T e B b p bs W → Lib.BuilderAtF T e B b p bs W' := by
    intro p h
    have hlt := h.lt
    obtain ⟨hB, v, hv, hown, hne⟩ := h
    exact ⟨hB, v, (hb.block b hlt).trans hv, hown.kept (row := none) ⟨hb.os, hb.tape, hb.output, hb.size, fun k hk _ => hb.block k hk⟩ (Classical.em _), hne⟩
  exact h.elim (fun x => .inl (k x)) (fun x => .inr (k x))

set_option maxHeartbeats 4000000 in
set_option maxRecDepth 1000000 in
theorem quote_calls (s : ByteArray) (w : World) (hs : s.size ≤ 1000000) (hT : Lib.Utf8Tabs 0 1 w) :
    Calls Tryz.prog 58 #[.string s] w fun e w' => e = .returned (.string (str (quote (toL s)))) ∧ Below w.heap.size w w' := by
  go_enter Tryz.func58, Tryz.ntmps58
  have hB0 : Lib.IsBuilderF 118 5 w.heap.size w.heap.size (Lib.byteCells []) (w.alloc (.cells #[.pointer none, .slice none 0 0] 118)) := Lib.IsBuilderF.of (Lib.fresh_isBuilder 118 5 w)
  go_wp2_with (go_at_call 102; refine (writeByte_k w.heap.size w.heap.size _ 34 _ hB0 (by simp [Lib.byteCells]) (by simp)).mono ?_)
  rintro e W0 ⟨rfl, h0, b0, k0⟩
  have hs0 : w.heap.size < W0.heap.size := by
    have := b0.size; simp at this; exact this
  go_wp2
  go_loopw [] (fun wr => ∃ (pos : Nat) (acc : List UInt8), Lib.IsBuilderF 118 5 w.heap.size w.heap.size (Lib.byteCells acc) wr ∧ wr.heap[W0.heap.size]? = some (.stringIter s pos) ∧ Below w.heap.size w wr ∧ Hid (acc ++ body ((toL s).drop pos) = 34 :: body (toL s)) ∧ acc.length ≤ 1 + 5 * pos ∧ pos ≤ s.size) (fun wr => s.size - wr.iterPos W0.heap.size)
  case atStart =>
    have hbw : Below w.heap.size w W0 := ((Below.refl _ w).alloc (Nat.le_refl _) _).trans b0
    refine ⟨0, [34], ?_, ?_, hbw.alloc (by omega) _, rfl, by simp, by omega⟩
    · exact (Lib.IsBuilderF.alloc (Or.inr h0) _)
    · simpa using World.iter_heap W0 s 0
  case round =>
    obtain ⟨pos, acc, hI, hit, hbw, hacc, hal, hps⟩ := hrel
    have hsz : W0.heap.size < wr.heap.size := (Array.getElem?_eq_some_iff.1 hit).1
    by_cases hp : pos < s.size
    · have hnx : ∀ ty, (Instr.next (.pointer (some ⟨W0.heap.size, 0, none⟩)) true ty).run Tryz.prog wr = _ := fun ty => Lib.run_next_any_at wr W0.heap.size s pos ty hit hp
      have hne : (toL s).drop pos ≠ [] := by
        intro e
        have := congrArg List.length e
        rw [List.length_drop, toL_size] at this
        simp at this; omega
      have hdp := dec_pos _ hne
      rw [List.length_drop, toL_size] at hdp
      rw [dec_at] at hnx
      have hgo : Lib.decodeGo (s.extract pos s.size) = dec ((toL s).drop pos) := by
        rw [cut_eq s pos s.size (by omega), List.take_of_length_le (by rw [List.length_drop, toL_size]; exact Nat.le_refl _), decodeGo_str _ hne]
      have hcut : s.extract pos (pos + (dec ((toL s).drop pos)).2) = str (((toL s).drop pos).take (dec ((toL s).drop pos)).2) := by
        rw [cut_eq _ _ _ (by omega), show pos + (dec ((toL s).drop pos)).2 - pos = (dec ((toL s).drop pos)).2 by omega]
      have hbs : Hid (body ((toL s).drop pos) = piece ((toL s).drop pos) ++ body (((toL s).drop (pos + (dec ((toL s).drop pos)).2)))) := by
        show _ = _
        rw [body_step _ hne, List.drop_drop]
      have hpl := piece_len _ hne
      have hesc := escape_calls _ hne
      rw [show s.data.toList = toL s from rfl] at hnx
      generalize (toL s).drop pos = t at *
      generalize dec t = d at *
      obtain ⟨r, n⟩ := d
      simp only at *
      have hI2 := hI.iterAt hit (pos + n)
      have hit2 := Lib.iterAt_heap wr W0.heap.size s pos (pos + n) hit
      have hbw2 := Lib.below_iterAt hbw (k := W0.heap.size) (by omega) s (pos + n)
      have hsz2 : w.heap.size < (wr.iterAt W0.heap.size s (pos + n)).heap.size := by rw [Lib.iterAt_size]; omega
      generalize wr.iterAt W0.heap.size s (pos + n) = wa at *
      go_wp2_with (go_at_call 103; refine (Tryz.utf8_DecodeRuneInString _ _ ((Utf8Tabs_below hT hbw2))).mono ?_)
      rintro e W1 ⟨rfl, hb1⟩
      have hI3 := isBuilder_below hI2 hb1
      have hit3 : W1.heap[W0.heap.size]? = some (.stringIter s (pos + n)) := (hb1.block _ (Array.getElem?_eq_some_iff.1 hit2).1).trans hit2
      have hbw3 := hbw2.trans (hb1.mono (by omega))
      have hz1 := hb1.size
      rw [hgo]
      go_wp2_with (rw [hcut]; go_at_call 104; refine (hesc _).mono ?_)
      rintro e W2 ⟨rfl, hb2⟩
      have hI4 := isBuilder_below hI3 hb2
      have hit4 : W2.heap[W0.heap.size]? = some (.stringIter s (pos + n)) := (hb2.block _ (Array.getElem?_eq_some_iff.1 hit3).1).trans hit3
      have hbw4 := hbw3.trans (hb2.mono (by omega))
      have hz2 := hb2.size
      go_wp2_with (go_at_call 73; refine (writeString_k w.heap.size w.heap.size _ _ _ hI4 (by rw [Lib.byteCells_length, str_size]; omega) (by omega)).mono ?_)
      rintro e W3 ⟨rfl, h3, b3, k3⟩
      rw [strCells_str, ← Lib.byteCells_append] at h3
      have hit5 := k3.iter hit4 (by omega)
      go_wp2
      go_roundw
      case rel =>
        refine ⟨pos + n, acc ++ piece t, Or.inr h3, hit5, hbw4.trans b3, ?_, by rw [List.length_append]; omega, by omega⟩
        show _ = _
        rw [List.append_assoc, ← hbs.out, hacc.out]
      case measure =>
        simp only [World.iterPos, hit5, hit]
        omega
    · have hnx : ∀ ty, (Instr.next (.pointer (some ⟨W0.heap.size, 0, none⟩)) true ty).run Tryz.prog wr = _ := fun ty => Lib.run_next_end_at wr W0.heap.size s pos ty hit hp
      have hend : acc = 34 :: body (toL s) := by
        have := hacc.out
        rw [List.drop_eq_nil_of_le (by rw [toL_size]; omega), body_nil, List.append_nil] at this
        exact this
      go_wp2_with (go_at_call 102; refine (writeByte_k w.heap.size w.heap.size _ 34 _ hI (by rw [Lib.byteCells_length]; omega) (by omega)).mono ?_)
      rintro e W1 ⟨rfl, h1, b1, k1⟩
      have hq : Lib.byteCells acc ++ [Value.int .u8 34] = Lib.byteCells (quote (toL s)) := by
        rw [hend, show quote (toL s) = (34 :: body (toL s)) ++ [34] from rfl, Lib.byteCells_append]; rfl
      rw [hq] at h1
      have hz1 := b1.size
      have hbw2 := hbw.trans b1
      go_wp2_with (go_at_call 74; refine (Tryz.Builder_String_any_k w.heap.size w.heap.size _ _ (Or.inr h1) (by omega)).mono ?_)
      rintro e W2 ⟨rfl, _, b2, _⟩
      go_wp2
      go_ret
      exact ⟨rfl, hbw2.trans b2⟩
end Go.Proofs.YtdgbpmbknlhgmaaGreatDoor
