/-
The arguments of the laws of chapter 6, and the package variables at the start. No statement of the claim is proved in this file.
-/
import Derived.Test.YtdgbpmbknlhgmaaGreatDoorLawQ2
import Derived.Test.YtdgbpmbknlhgmaaGreatDoorRow
import Derived.Lib.LaidU8
import Derived.PinnedBridge
import Derived.SliceStrings
set_option linter.unusedVariables false
set_option maxRecDepth 100000
namespace Go.Proofs.YtdgbpmbknlhgmaaGreatDoor
open Go.ChangeShapes Go.WideShapes Go.ChangeAt Go.RowKit Go.Deep Go.Joins
open Go.ChangeMaps (open_string shut_string)

section
variable {H : Type} {enc : TypeId × Value → H} {W : World} {base : Nat} {spare : Nat → Bool} {held : Bool} {b0 : Nat}
theorem cell_lt {W : World} {a : Addr} {v : Value} (h : W.cell? a = some v) : a.block < W.heap.size := by
  rcases Nat.lt_or_ge a.block W.heap.size with h' | h'
  · exact h'
  · simp [World.cell?, Array.getElem?_eq_none h'] at h
theorem open_str {v : Value} {d : DataW H} {p : List MemPlace} {ts : List TypeId} {ds : List (DataW H)} {j : Nat} (hsz : (DataW.weightsEach Tryz.prog ts ds).all (· ≤ reachBytes) = true) (ht : ts[j]? = some 9) (hd : ds[j]? = some d)
    (hv : Value.okWide Tryz.prog W .any b0 9 v) (h : DataW.Trod enc Tryz.prog W base spare held 9 v d p) :
    ∃ s : ByteArray, v = .string s ∧ s.size ≤ 140737488351232 := by
  obtain ⟨s, rfl, rfl, rfl, _⟩ := open_string Tryz.underlying9 hv h
  have := sized_string hsz ht hd
  rw [Array.length_toList] at this
  exact ⟨s, rfl, this⟩
theorem weights_strs (P : Program) (e : TypeId) : ∀ (ss : List ByteArray) (s : ByteArray), s ∈ ss → s.data.toList.length ∈ DataW.weightsAll (H := H) P e (strs ss)
  | [], s, h => by cases h
  | a :: ss, s, h => by
    show _ ∈ DataW.weightsAll P e (DataW.lit (.string a.data.toList) :: strs ss)
    rw [DataW.weightsAll, List.mem_append]
    rcases List.mem_cons.1 h with rfl | h
    · exact .inl (by simp [DataW.weights])
    · exact .inr (weights_strs P e ss s h)
theorem open_strs {v : Value} {d : DataW H} {p : List MemPlace} {ts : List TypeId} {ds : List (DataW H)} {j : Nat} (hsz : (DataW.weightsEach Tryz.prog ts ds).all (· ≤ reachBytes) = true) (ht : ts[j]? = some 83) (hd : ds[j]? = some d)
    (hv : Value.okWide Tryz.prog W .any b0 83 v) (h : DataW.Trod enc Tryz.prog W base spare held 83 v d p) :
    ∃ x : Option Addr × Nat × Nat × List (List UInt8), v = .slice x.1 x.2.1 x.2.2.1 ∧ TxAt W x.1 x.2.1 x.2.2.2 ∧ x.2.1 ≤ x.2.2.1 ∧ x.2.1 ≤ 140737488351232 ∧ ∀ t ∈ x.2.2.2, t.length ≤ 140737488351232 := by
  obtain ⟨A, n, c, rfl⟩ := okWide_slice Tryz.underlying83 hv
  obtain ⟨fuel, hf⟩ := h
  rcases open_strings Tryz.underlying83 Tryz.underlying9 (by kernel_rfl) hf with ⟨hcs, _⟩ | ⟨a, len, cap, ss, hcs, _, hlc, hcm, hsl, hx, hcell, _⟩
  · simp [Value.cells] at hcs
    obtain ⟨rfl, rfl, rfl⟩ := hcs
    exact ⟨(none, 0, 0, []), rfl, Reads.none_, Nat.le_refl _, Nat.zero_le _, fun t h => by cases h⟩
  · simp [Value.cells] at hcs
    obtain ⟨rfl, rfl, rfl⟩ := hcs
    obtain ⟨hx, _⟩ := Prod.mk.inj hx
    subst hx
    have hnm : n ≤ ss.length := by rw [hsl]; split <;> omega
    have z := sized_slice hsz ht hd Tryz.underlying83
    rw [show Tryz.prog.bytesOf 9 = 16 by kernel_rfl] at z
    have h1 : (strs (H := H) (ss.take n)).length + (strs (H := H) (ss.drop n)).length = ss.length := by
      simp [strs]; omega
    rw [h1] at z
    have z2 : reachBytes = 140737488351232 := rfl
    refine ⟨(some a, n, c, (ss.take n).map toL), rfl, ?_, hlc, by simp only; omega, fun t ht2 => ?_⟩
    · have hsc : sc ((ss.take n).map toL) = (ss.take n).map Value.string := by
        unfold sc
        rw [List.map_map]
        exact List.map_congr_left fun s _ => congrArg Value.string (str_toL s)
      refine ⟨by rw [hsc]; simp; omega, fun (hn0 : 0 < n) => ⟨a, rfl, ?_, fun k u hu => ?_⟩⟩
      · have h0 := cell_lt (hcell 0 (by omega))
        rw [block_of_add] at h0; exact h0
      · rw [hsc] at hu
        have hk : k < n := by
          rcases Nat.lt_or_ge k n with h | h
          · exact h
          · rw [List.getElem?_eq_none (by simp; omega)] at hu; cases hu
        rw [hcell k (by omega), ← hu, List.getElem?_map, List.getElem?_take, if_pos hk, List.getD_eq_getElem?_getD, List.getElem?_eq_getElem (by omega)]; rfl
    · simp only at ht2
      obtain ⟨s, hs, rfl⟩ := List.mem_map.1 ht2
      have hw : s.data.toList.length ∈ DataW.weights Tryz.prog 83 (.slice (strs (H := H) (ss.take n)) (strs (ss.drop n))) := by
        rw [DataW.weights, Tryz.underlying83]
        simp only
        refine List.mem_cons_of_mem _ (List.mem_append.2 (.inl (weights_strs _ _ _ _ hs)))
      have := List.all_eq_true.1 hsz _ (DataW.weights_mem_each ht hd _ hw)
      have : s.data.toList.length ≤ reachBytes := by simpa using this
      exact this
end

theorem acceptData_eq : (Rows.laid_unicode_utf8_acceptRanges : DataW Unit) = Lib.acceptData := by kernel_rfl
theorem u8Extra : U8Extra Tryz.prog Tryz.lays260_ren := ⟨by kernel_rfl, by kernel_rfl, by kernel_rfl, by kernel_rfl, by kernel_rfl, by kernel_rfl, by kernel_rfl⟩
theorem qvars_of {L : List (String × DataW Unit)} {W : World} (hL : laidMetH Tryz.prog L W) (hp : (L.all fun x => x.2.handleName?.isNone) = true)
    (h1 : ("unicode/utf8.first", Go.Pinned.utf8First) ∈ L) (h2 : ("unicode/utf8.acceptRanges", (Rows.laid_unicode_utf8_acceptRanges : DataW Unit)) ∈ L) (hsh : W.ShapedOpen Tryz.prog) : QVars W := by
  rw [Go.MakeChecks.laidMetH_plain _ _ _ hp] at hL
  rw [Go.Pinned.utf8First_eq] at h1
  rw [acceptData_eq] at h2
  exact ⟨utf8Tabs_of_reads (ρ := Tryz.lays260_ren) Tryz.lays260 u8Extra (Lib.laidMet.reads hL h1) (Lib.laidMet.reads hL h2),
    Go.Proofs.cell_of_shapedOpen_int (zero := #[.int .i64 0]) (t := 3) hsh (of_decide_eq_true (by kernel_rfl)) (by kernel_rfl) rfl (by kernel_rfl) (by kernel_rfl) Tryz.underlying3⟩
/-- A WORLD FOR THE WITNESS: the settled one, the tables holding what their initialisers lay. -/
def tabObj (k : IntKind) (zs : List Int) : Obj → Obj
  | .cells _ t frozen => .cells (zs.map fun z => Value.int k z).toArray t frozen
  | o => o
def acceptInts : List Int := [128, 191, 160, 191, 128, 159, 144, 191, 128, 143, 0, 0, 0, 0, 0, 0, 0, 0, 0, 0, 0, 0, 0, 0, 0, 0, 0, 0, 0, 0, 0, 0]
noncomputable def laidWorld (os : Os) : World :=
  { World.holding Tryz.prog os ⟨#[], #[], []⟩ with heap := ((World.holding Tryz.prog os ⟨#[], #[], []⟩).heap.modify 0 (tabObj .u8 Lib.firstTab)).modify 1 (tabObj .u8 acceptInts) }

namespace Walk
end Walk
end Go.Proofs.YtdgbpmbknlhgmaaGreatDoor
