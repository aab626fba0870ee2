/-
The arguments of the laws of chapter 6, and the package variables at the start. No statement of the claim is proved in this file.
-/
import Derived.Test.YtdgbpmbknlhgmaaDoorLawQ2
import Derived.Test.YtdgbpmbknlhgmaaDoorRow
import Derived.Lib.LaidU8
import Derived.PinnedBridge
import Derived.SliceStrings
set_option linter.unusedVariables false
set_option maxRecDepth 100000
namespace Go.Proofs.YtdgbpmbknlhgmaaDoor
open Go.ChangeShapes Go.WideShapes Go.ChangeAt Go.RowKit Go.Deep Go.Joins
open Go.ChangeMaps (open_string shut_string)

section
variable {H : Type} {enc : TypeId × Value → H} {W : World} {base : Nat} {spare : Nat → Bool} {held : Bool} {b0 : Nat}
theorem cell_lt {W : World} {a : Addr} {v : Value} (h : W.cell? a = some v) : a.block < W.heap.size := by
  rcases Nat.lt_or_ge a.block W.heap.size with h' | h'
  · exact h'
  · simp [World.cell?, Array.getElem?_eq_none h'] at h
theorem open_str {v : Value} {d : DataW H} {p : List MemPlace} {ts : List TypeId} {ds : List (DataW H)} {j : Nat} (hsz : (DataW.weightsEach Tryd.prog ts ds).all (· ≤ reachBytes) = true) (ht : ts[j]? = some 9) (hd : ds[j]? = some d)
    (hv : Value.okWide Tryd.prog W .any b0 9 v) (h : DataW.Trod enc Tryd.prog W base spare held 9 v d p) :
    ∃ s : ByteArray, v = .string s ∧ s.size ≤ 140737488351232 := by
  obtain ⟨s, rfl, rfl, rfl, _⟩ := open_string Tryd.underlying9 hv h
  have := sized_string hsz ht hd
  rw [Array.length_toList] at this
  exact ⟨s, rfl, this⟩
theorem weights_strs (P : Program) (e : TypeId) : ∀ (ss : List ByteArray) (s : ByteArray), s ∈ ss → s.data.toList.length ∈ DataW.weightsAll (H := H) P e (strs ss)
  | [], s, h => by cases h
  | a :: ss, s, h => by
    show _ ∈ DataW.weightsAll P e (DataW.lit (.string a.data.toList) :: strs ss)
    rw [DataW.weightsAll, List.mem_append]
    rcases List.mem_cons.1 h with rfl | h
    · exact .inl (by simp [DataW.weights])
    · exact .inr (weights_strs P e ss s h)
theorem open_strs {v : Value} {d : DataW H} {p : List MemPlace} {ts : List TypeId} {ds : List (DataW H)} {j : Nat} (hsz : (DataW.weightsEach Tryd.prog ts ds).all (· ≤ reachBytes) = true) (ht : ts[j]? = some 30) (hd : ds[j]? = some d)
    (hv : Value.okWide Tryd.prog W .any b0 30 v) (h : DataW.Trod enc Tryd.prog W base spare held 30 v d p) :
    ∃ x : Option Addr × Nat × Nat × List (List UInt8), v = .slice x.1 x.2.1 x.2.2.1 ∧ TxAt W x.1 x.2.1 x.2.2.2 ∧ x.2.1 ≤ x.2.2.1 ∧ x.2.1 ≤ 140737488351232 ∧ ∀ t ∈ x.2.2.2, t.length ≤ 140737488351232 := by
  obtain ⟨A, n, c, rfl⟩ := okWide_slice Tryd.underlying30 hv
  obtain ⟨fuel, hf⟩ := h
  rcases open_strings Tryd.underlying30 Tryd.underlying9 (by kernel_rfl) hf with ⟨hcs, _⟩ | ⟨a, len, cap, ss, hcs, _, hlc, hcm, hsl, hx, hcell, _⟩
  · simp [Value.cells] at hcs
    obtain ⟨rfl, rfl, rfl⟩ := hcs
    exact ⟨(none, 0, 0, []), rfl, Reads.none_, Nat.le_refl _, Nat.zero_le _, fun t h => by cases h⟩
  · simp [Value.cells] at hcs
    obtain ⟨rfl, rfl, rfl⟩ := hcs
    obtain ⟨hx, _⟩ := Prod.mk.inj hx
    subst hx
    have hnm : n ≤ ss.length := by rw [hsl]; split <;> omega
    have z := sized_slice hsz ht hd Tryd.underlying30
    rw [show Tryd.prog.bytesOf 9 = 16 by kernel_rfl] at z
    have h1 : (strs (H := H) (ss.take n)).length + (strs (H := H) (ss.drop n)).length = ss.length := by
      simp [strs]; omega
    rw [h1] at z
    have z2 : reachBytes = 140737488351232 := rfl
    refine ⟨(some a, n, c, (ss.take n).map toL), rfl, ?_, hlc, by simp only; omega, fun t ht2 => ?_⟩
    · have hsc : sc ((ss.take n).map toL) = (ss.take n).map Value.string := by
        unfold sc
        rw [List.map_map]
        exact List.map_congr_left fun s _ => congrArg Value.string (str_toL s)
      refine ⟨by rw [hsc]; simp; omega, fun (hn0 : 0 < n) => ⟨a, rfl, ?_, fun k u hu => ?_⟩⟩
      · have h0 := cell_lt (hcell 0 (by omega))
        rw [block_of_add] at h0; exact h0
      · rw [hsc] at hu
        have hk : k < n := by
          rcases Nat.lt_or_ge k n with h | h
          · exact h
          · rw [List.getElem?_eq_none (by simp; omega)] at hu; cases hu
        rw [hcell k (by omega), ← hu, List.getElem?_map, List.getElem?_take, if_pos hk, List.getD_eq_getElem?_getD, List.getElem?_eq_getElem (by omega)]; rfl
    · simp only at ht2
      obtain ⟨s, hs, rfl⟩ := List.mem_map.1 ht2
      have hw : s.data.toList.length ∈ DataW.weights Tryd.prog 30 (.slice (strs (H := H) (ss.take n)) (strs (ss.drop n))) := by
        rw [DataW.weights, Tryd.underlying30]
        simp only
        refine List.mem_cons_of_mem _ (List.mem_append.2 (.inl (weights_strs _ _ _ _ hs)))
      have := List.all_eq_true.1 hsz _ (DataW.weights_mem_each ht hd _ hw)
      have : s.data.toList.length ≤ reachBytes := by simpa using this
      exact this
end

theorem acceptData_eq : (Rows.laid_unicode_utf8_acceptRanges : DataW Unit) = Lib.acceptData := by kernel_rfl
theorem u8Extra : U8Extra Tryd.prog Tryd.lays260_ren := ⟨by kernel_rfl, by kernel_rfl, by kernel_rfl, by kernel_rfl, by kernel_rfl, by kernel_rfl, by kernel_rfl⟩
theorem qvars_of {L : List (String × DataW Unit)} {W : World} (hL : laidMetH Tryd.prog L W) (hp : (L.all fun x => x.2.handleName?.isNone) = true)
    (h1 : ("unicode/utf8.first", Go.Pinned.utf8First) ∈ L) (h2 : ("unicode/utf8.acceptRanges", (Rows.laid_unicode_utf8_acceptRanges : DataW Unit)) ∈ L) (hsh : W.ShapedOpen Tryd.prog) : QVars W := by
  rw [Go.MakeChecks.laidMetH_plain _ _ _ hp] at hL
  rw [Go.Pinned.utf8First_eq] at h1
  rw [acceptData_eq] at h2
  exact ⟨utf8Tabs_of_reads (ρ := Tryd.lays260_ren) Tryd.lays260 u8Extra (Lib.laidMet.reads hL h1) (Lib.laidMet.reads hL h2),
    Go.Proofs.cell_of_shapedOpen_int (zero := #[.int .i64 0]) (t := 3) hsh (of_decide_eq_true (by kernel_rfl)) (by kernel_rfl) rfl (by kernel_rfl) (by kernel_rfl) Tryd.underlying3⟩
theorem vars_quoteTexts {W : World} (hL : laidMetH Tryd.prog Rows.quoteTextsRow.laid W) (hsh : W.ShapedOpen Tryd.prog) : QVars W := qvars_of hL (by kernel_rfl) (.tail _ (.head _)) (.head _) hsh
theorem vars_quoteReads {W : World} (hL : laidMetH Tryd.prog Rows.quoteReadsRow.laid W) (hsh : W.ShapedOpen Tryd.prog) : QVars W := qvars_of hL (by kernel_rfl) (.tail _ (.head _)) (.head _) hsh
theorem vars_quoteLines {W : World} (hL : laidMetH Tryd.prog Rows.quoteLinesRow.laid W) (hsh : W.ShapedOpen Tryd.prog) : QVars W := qvars_of hL (by kernel_rfl) (.tail _ (.head _)) (.head _) hsh
theorem vars_quoteWords {W : World} (hL : laidMetH Tryd.prog Rows.quoteWordsRow.laid W) (hsh : W.ShapedOpen Tryd.prog) : QVars W := qvars_of hL (by kernel_rfl) (.tail _ (.head _)) (.head _) hsh

/-- A WORLD FOR THE WITNESS: the settled one, the tables holding what their initialisers lay. -/
def tabObj (k : IntKind) (zs : List Int) : Obj → Obj
  | .cells _ t frozen => .cells (zs.map fun z => Value.int k z).toArray t frozen
  | o => o
def acceptInts : List Int := [128, 191, 160, 191, 128, 159, 144, 191, 128, 143, 0, 0, 0, 0, 0, 0, 0, 0, 0, 0, 0, 0, 0, 0, 0, 0, 0, 0, 0, 0, 0, 0]
noncomputable def laidWorld (os : Os) : World :=
  { World.holding Tryd.prog os ⟨#[], #[], []⟩ with heap := ((World.holding Tryd.prog os ⟨#[], #[], []⟩).heap.modify 0 (tabObj .u8 Lib.firstTab)).modify 1 (tabObj .u8 acceptInts) }

namespace Walk
theorem quoteTexts (s : ByteArray) (w : World) (hv : QVars w) (_ : s.size ≤ 140737488351232) :
    Calls Tryd.prog 3 #[.string s] w fun e w' => e = .returned (.bool true) ∧ Below w.heap.size w w' := lawTexts_calls s w hv
theorem quoteReads (s : ByteArray) (w : World) (hv : QVars w) (_ : s.size ≤ 140737488351232) :
    Calls Tryd.prog 4 #[.string s] w fun e w' => e = .returned (.bool true) ∧ Below w.heap.size w w' := lawReads_calls s w hv
theorem quoteLines (s : ByteArray) (w : World) (hv : QVars w) (_ : s.size ≤ 140737488351232) :
    Calls Tryd.prog 5 #[.string s] w fun e w' => e = .returned (.bool true) ∧ Below w.heap.size w w' := lawLines_calls s w hv
theorem quoteWords (x : Option Addr × Nat × Nat × List (List UInt8)) (w : World) (hv : QVars w) (h : TxAt w x.1 x.2.1 x.2.2.2 ∧ x.2.1 ≤ x.2.2.1 ∧ x.2.1 ≤ 140737488351232 ∧ ∀ t ∈ x.2.2.2, t.length ≤ 140737488351232) :
    Calls Tryd.prog 6 #[.slice x.1 x.2.1 x.2.2.1] w fun e w' => e = .returned (.bool true) ∧ Below w.heap.size w w' := lawWords_calls _ _ _ _ w hv h.2.2.1 h.2.1 h.2.2.2 h.1
end Walk
end Go.Proofs.YtdgbpmbknlhgmaaDoor
