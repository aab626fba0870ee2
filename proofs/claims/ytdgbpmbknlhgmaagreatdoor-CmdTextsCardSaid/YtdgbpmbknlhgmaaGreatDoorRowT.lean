/-
The package variables at the start, with the table of digits; a world for the witness. No statement of the claim is proved in this file.
-/
import Derived.Test.YtdgbpmbknlhgmaaGreatDoorDig
import Derived.Test.YtdgbpmbknlhgmaaGreatDoorRowQ
set_option linter.unusedVariables false
set_option maxRecDepth 100000
namespace Go.Proofs.YtdgbpmbknlhgmaaGreatDoor
open Go.ChangeShapes Go.WideShapes Go.ChangeAt Go.RowKit Go.Deep Go.Joins Qt
open Go.ChangeMaps (open_string shut_string)

theorem tab_of {L : List (String × DataW Unit)} {W : World} {name : String} {k : IntKind} {zs : List Int} {g : Nat} {t e : TypeId} {n : Nat}
    (hL : laidMetH Tryz.prog L W) (hp : (L.all fun x => x.2.handleName?.isNone) = true) (hf : L.filter (fun x => x.1 == name) = [(name, Lib.tabData k zs)])
    (hg : Tryz.prog.globalNamed name = some g) (hty : (Tryz.prog.globals[g]?).map (·.type) = some t) (ht : Tryz.prog.underlying t = some (.array n e)) (he : Tryz.prog.underlying e = some (.int k)) (hce : Tryz.prog.cellsOf e = 1) (hct : Tryz.prog.cellsOf t = n) :
    Lib.TabIs Tryz.prog W name k zs := by
  rw [Go.MakeChecks.laidMetH_plain _ _ _ hp] at hL
  have h := hL.filter (fun x => x.1 == name)
  rw [hf] at h
  exact Lib.tabIs_of_head hg hty ht he hce hct h
theorem tabP {L : List (String × DataW Unit)} {W : World} (hL : laidMetH Tryz.prog L W) (hp : (L.all fun x => x.2.handleName?.isNone) = true)
    (hf : L.filter (fun x => x.1 == "internal/strconv.uint64pow10") = [("internal/strconv.uint64pow10", Lib.tabData .u64 Lib.pow10Tab)]) : TabP W :=
  tab_of (g := 4) hL hp hf (by kernel_rfl) (by kernel_rfl) Tryz.underlying189 Tryz.underlying165 (by kernel_rfl) (by kernel_rfl)
def db64 : List Int := [0, 1, 56, 2, 57, 49, 28, 3, 61, 58, 42, 50, 38, 29, 17, 4, 62, 47, 59, 36, 45, 43, 51, 22, 53, 39, 33, 30, 24, 18, 12, 5, 63, 55, 48, 27, 60, 41, 37, 16, 46, 35, 44, 21, 52, 32, 23, 11, 54, 26, 40, 15, 34, 20, 31, 10, 25, 14, 19, 9, 13, 8, 7, 6]
def db32 : List Int := [0, 1, 28, 2, 29, 14, 24, 3, 30, 22, 20, 15, 25, 17, 4, 8, 31, 27, 13, 23, 21, 19, 16, 7, 26, 12, 18, 6, 11, 5, 10, 9]
def pow10s : List Int := [1, 10, 100, 1000, 10000, 100000, 1000000, 10000000, 100000000, 1000000000, 10000000000, 100000000000, 1000000000000, 10000000000000, 100000000000000, 1000000000000000, 10000000000000000, 100000000000000000, 1000000000000000000, 10000000000000000000]
namespace An
/-- A WORLD FOR THE WITNESS: the settled one, the tables holding what their initialisers lay. -/
noncomputable def laidWorld (os : Os) : World :=
  { World.holding Tryz.prog os ⟨#[], #[], []⟩ with heap := (((((World.holding Tryz.prog os ⟨#[], #[], []⟩).heap.modify 0 (tabObj .u8 Lib.firstTab)).modify 1 (tabObj .u8 acceptInts)).modify 4 (tabObj .u64 pow10s)).modify 6 (tabObj .u8 db32)).modify 7 (tabObj .u8 db64) }
end An
end Go.Proofs.YtdgbpmbknlhgmaaGreatDoor
