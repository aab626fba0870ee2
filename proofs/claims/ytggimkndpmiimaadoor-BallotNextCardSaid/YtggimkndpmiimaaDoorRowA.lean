/-
The package variables of this seat at the start: what the walks ask of them. No statement of the claim is proved in this file.
-/
import Derived.Test.YtggimkndpmiimaaDoorCrcCh
import Derived.Test.YtggimkndpmiimaaDoorRow
set_option linter.unusedVariables false
namespace Go.Proofs.YtggimkndpmiimaaDoor
open Go.ChangeShapes Go.WideShapes Go.ChangeAt Go.RowKit

theorem tab_of {L : List (String × DataW Unit)} {W : World} {name : String} {k : IntKind} {zs : List Int} {g : Nat} {t e : TypeId} {n : Nat}
    (hL : laidMetH Tryd.prog L W) (hp : (L.all fun x => x.2.handleName?.isNone) = true) (hf : L.filter (fun x => x.1 == name) = [(name, Lib.tabData k zs)])
    (hg : Tryd.prog.globalNamed name = some g) (hty : (Tryd.prog.globals[g]?).map (·.type) = some t) (ht : Tryd.prog.underlying t = some (.array n e)) (he : Tryd.prog.underlying e = some (.int k)) (hce : Tryd.prog.cellsOf e = 1) (hct : Tryd.prog.cellsOf t = n) :
    Lib.TabIs Tryd.prog W name k zs := by
  rw [Go.MakeChecks.laidMetH_plain _ _ _ hp] at hL
  have h := hL.filter (fun x => x.1 == name)
  rw [hf] at h
  exact Lib.tabIs_of_head hg hty ht he hce hct h
theorem cell_lt {W : World} {a : Addr} {v : Value} (h : W.cell? a = some v) : a.block < W.heap.size := by
  rcases Nat.lt_or_ge a.block W.heap.size with h' | h'
  · exact h'
  · simp [World.cell?, Array.getElem?_eq_none h'] at h

def db64 : List Int := [0, 1, 56, 2, 57, 49, 28, 3, 61, 58, 42, 50, 38, 29, 17, 4, 62, 47, 59, 36, 45, 43, 51, 22, 53, 39, 33, 30, 24, 18, 12, 5, 63, 55, 48, 27, 60, 41, 37, 16, 46, 35, 44, 21, 52, 32, 23, 11, 54, 26, 40, 15, 34, 20, 31, 10, 25, 14, 19, 9, 13, 8, 7, 6]
def crcInts : List Int := [0, 498536548, 997073096, 651767980, 1994146192, 1802195444, 1303535960, 1342533948, 3988292384, 4027552580, 3604390888, 3412177804, 2607071920, 2262029012, 2685067896, 3183342108]

theorem crcVars_of {W : World} (h1 : Lib.TabIs Tryd.prog W "changeover/crc.table" .u32 crcInts) (h2 : Lib.TabIs Tryd.prog W "math/bits.deBruijn64tab" .u8 db64) : CrcVars W := by
  have ht : W.cell? ⟨3, 15, none⟩ = some (.int .u8 4) := Lib.TabIs.cell h2 (by kernel_rfl) 15 (by decide)
  refine ⟨fun i hi => ?_, ht, cell_lt ht⟩
  have h := Lib.TabIs.cell h1 (g := 0) (by kernel_rfl) i hi
  rw [h]
  have : ∀ i, i < 16 → crcInts.getD i 0 = ((Crc.tab.getD i 0 : Nat) : Int) := by decide
  rw [this i hi]
theorem crcVars {L : List (String × DataW Unit)} {W : World} (hL : laidMetH Tryd.prog L W) (hp : (L.all fun x => x.2.handleName?.isNone) = true)
    (hf1 : L.filter (fun x => x.1 == "changeover/crc.table") = [("changeover/crc.table", Lib.tabData .u32 crcInts)])
    (hf2 : L.filter (fun x => x.1 == "math/bits.deBruijn64tab") = [("math/bits.deBruijn64tab", Lib.tabData .u8 db64)]) : CrcVars W :=
  crcVars_of (tab_of (g := 0) hL hp hf1 (by kernel_rfl) (by kernel_rfl) Tryd.underlying54 Tryd.underlying24 (by kernel_rfl) (by kernel_rfl))
    (tab_of (g := 3) hL hp hf2 (by kernel_rfl) (by kernel_rfl) Tryd.underlying69 Tryd.underlying5 (by kernel_rfl) (by kernel_rfl))
theorem vars_crcSums {W : World} (hL : laidMetH Tryd.prog Rows.crcSumsRow.laid W) (_ : W.ShapedOpen Tryd.prog) : CrcVars W := crcVars hL (by kernel_rfl) (by kernel_rfl) (by kernel_rfl)
theorem vars_crcGoesOn {W : World} (hL : laidMetH Tryd.prog Rows.crcGoesOnRow.laid W) (_ : W.ShapedOpen Tryd.prog) : CrcVars W := crcVars hL (by kernel_rfl) (by kernel_rfl) (by kernel_rfl)
theorem vars_crcChanges {W : World} (hL : laidMetH Tryd.prog Rows.crcChangesRow.laid W) (_ : W.ShapedOpen Tryd.prog) : CrcVars W := crcVars hL (by kernel_rfl) (by kernel_rfl) (by kernel_rfl)

section
variable {H : Type} {enc : TypeId × Value → H} {W : World} {base : Nat} {spare : Nat → Bool} {held : Bool} {b0 : Nat}
theorem u8_of {v : Value} {m : Nat} {y : DataW H × List MemPlace} (h : DataW.trod enc Tryd.prog W base spare held m 5 [v] = some y) : ∃ x : UInt8, v = .int .u8 (x.toNat : Int) := by
  obtain ⟨z, hc, _, wz⟩ := DataW.trod_int Tryd.underlying5 h
  have hb : 0 ≤ z ∧ z ≤ 255 := by simpa [Lit.wf, IntKind.min, IntKind.max, IntKind.bits, IntKind.signed] using wz
  refine ⟨UInt8.ofNat z.toNat, ?_⟩
  have e : (UInt8.ofNat z.toNat).toNat = z.toNat := by rw [UInt8.toNat_ofNat']; exact Nat.mod_eq_of_lt (by omega)
  rw [e, Int.toNat_of_nonneg hb.1]
  simpa using hc
theorem open_arr4 {v : Value} {d : DataW H} {p : List MemPlace} (hv : Value.okWide Tryd.prog W .any b0 30 v) (h : DataW.Trod enc Tryd.prog W base spare held 30 v d p) :
    ∃ x0 x1 x2 x3 : UInt8, v = .agg #[.int .u8 (x0.toNat : Int), .int .u8 (x1.toNat : Int), .int .u8 (x2.toNat : Int), .int .u8 (x3.toNat : Int)] := by
  simp only [Value.okWide, Tryd.underlying30] at hv
  obtain ⟨cs, rfl, hsz, _⟩ := hv
  rw [show Tryd.prog.cellsOf 30 = 4 by kernel_rfl] at hsz
  obtain ⟨fuel, hf⟩ := h
  obtain ⟨xs, m, _, _, _, hl, hg⟩ := DataW.trod_array Tryd.underlying30 hf
  rw [show Tryd.prog.cellsOf 5 = 1 by kernel_rfl] at hg
  obtain ⟨l⟩ := cs
  match l, hsz with
  | [c0, c1, c2, c3], _ =>
    match xs, hl with
    | [y0, y1, y2, y3], _ =>
      have g0 := hg 0 (by omega)
      have g1 := hg 1 (by omega)
      have g2 := hg 2 (by omega)
      have g3 := hg 3 (by omega)
      simp [Value.cells] at g0 g1 g2 g3
      obtain ⟨x0, rfl⟩ := u8_of g0
      obtain ⟨x1, rfl⟩ := u8_of g1
      obtain ⟨x2, rfl⟩ := u8_of g2
      obtain ⟨x3, rfl⟩ := u8_of g3
      exact ⟨x0, x1, x2, x3, rfl⟩
end

/-- A WORLD FOR THE WITNESS: the settled one, the tables holding what their initialisers lay. -/
def tabObj (k : IntKind) (zs : List Int) : Obj → Obj
  | .cells _ t frozen => .cells (zs.map fun z => Value.int k z).toArray t frozen
  | o => o
def db32 : List Int := [0, 1, 28, 2, 29, 14, 24, 3, 30, 22, 20, 15, 25, 17, 4, 8, 31, 27, 13, 23, 21, 19, 16, 7, 26, 12, 18, 6, 11, 5, 10, 9]
def pow10s : List Int := [1, 10, 100, 1000, 10000, 100000, 1000000, 10000000, 100000000, 1000000000, 10000000000, 100000000000, 1000000000000, 10000000000000, 100000000000000, 1000000000000000, 10000000000000000, 100000000000000000, 1000000000000000000, 10000000000000000000]
noncomputable def laidWorld (os : Os) : World :=
  { World.holding Tryd.prog os ⟨#[], #[], []⟩ with heap := ((((World.holding Tryd.prog os ⟨#[], #[], []⟩).heap.modify 0 (tabObj .u32 crcInts)).modify 1 (tabObj .u64 pow10s)).modify 2 (tabObj .u8 db32)).modify 3 (tabObj .u8 db64) }

namespace Walk
theorem crcSums (A : Option Addr) (n cap : Nat) (l : List UInt8) (w : World) (hv : CrcVars w) (hn : n ≤ 140737488351232) (hl : BytesAt w A n l) :
    Calls Tryd.prog 3 #[.slice A n cap] w fun e w' => e = .returned (.bool true) ∧ Below w.heap.size w w' := sums_calls A n cap l w hn hv hl
theorem crcGoesOn (A : Option Addr) (n cap : Nat) (a : List UInt8) (B : Option Addr) (m dap : Nat) (b : List UInt8) (w : World) (hv : CrcVars w) (hn : n ≤ 140737488351232) (ha : BytesAt w A n a) (hm : m ≤ 140737488351232) (hb : BytesAt w B m b) :
    Calls Tryd.prog 4 #[.slice A n cap, .slice B m dap] w fun e w' => e = .returned (.bool true) ∧ Below w.heap.size w w' := goeson_calls A B n m cap dap a b w hn hm hv ha hb
theorem crcChanges (A : Option Addr) (n cap : Nat) (l : List UInt8) (p : Int) (x0 x1 x2 x3 : UInt8) (w : World) (hv : CrcVars w) (hn : n ≤ 140737488351232) (hl : BytesAt w A n l) (hp : -9223372036854775808 ≤ p) (hp' : p ≤ 9223372036854775807) :
    Calls Tryd.prog 5 #[.slice A n cap, .int .i64 p, .agg #[.int .u8 (x0.toNat : Int), .int .u8 (x1.toNat : Int), .int .u8 (x2.toNat : Int), .int .u8 (x3.toNat : Int)]] w fun e w' => e = .returned (.bool true) ∧ Below w.heap.size w w' := changes_calls A n cap p x0 x1 x2 x3 l w hn hp hp' hv hl
end Walk
end Go.Proofs.YtggimkndpmiimaaDoor
