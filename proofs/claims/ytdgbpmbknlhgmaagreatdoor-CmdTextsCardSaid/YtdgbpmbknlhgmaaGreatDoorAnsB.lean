/-
The walks through answer.Put, answer.Get, answer.Encode, answer.Decode, changeoverref09.Bytes.
The walks through changeoverref09.Bytes, answer.Get.
-/
import Derived.Test.YtdgbpmbknlhgmaaGreatDoorAnsA
import Derived.Test.YtdgbpmbknlhgmaaGreatDoorReadE
import Derived.Test.YtdgbpmbknlhgmaaGreatDoorTail
set_option linter.unusedVariables false
set_option linter.unusedSimpArgs false
namespace Go.Proofs.YtdgbpmbknlhgmaaGreatDoor
open Go.RowKit Qt Vm

/-- an answer's fields. -/
def ansF (v : Int) (cl sq er : Int) (fd : Bool) (vl : List UInt8) (rv : Int) : List Fv :=
  [.num cl.toNat, .num sq.toNat, .num er.toNat, .flag fd, .txt vl] ++ (if v = 1 then [] else [.num rv.toNat])
theorem ansF_one (cl sq er : Int) (fd : Bool) (vl : List UInt8) (rv : Int) : bytesOf (ansF 1 cl sq er fd vl rv) = ((((vb cl.toNat ++ vb sq.toNat) ++ vb er.toNat) ++ (Fv.flag fd).bytes) ++ (Fv.txt vl).bytes) := by
  simp [ansF, bytesOf, Fv.bytes]
theorem ansF_two {v : Int} (h : v ≠ 1) (cl sq er : Int) (fd : Bool) (vl : List UInt8) (rv : Int) : bytesOf (ansF v cl sq er fd vl rv) = (((((vb cl.toNat ++ vb sq.toNat) ++ vb er.toNat) ++ (Fv.flag fd).bytes) ++ (Fv.txt vl).bytes) ++ vb rv.toNat) := by
  simp [ansF, bytesOf, Fv.bytes, h]
theorem only_alloc' {w w' : World} {row : Option Nat} {o : Obj} (h : (w.alloc o).grownBy w' row) : w.grownBy w' row := only_trans (only_of_below ((Below.refl _ _).alloc (Nat.le_refl _) o) row) h
/-- a block that stands where a writer's does not. -/
theorem Blk.only {w w' : World} {b g : Nat} {t : TypeId} {cs : Array Value} (h : Blk w b t cs) (hg : w.grownBy w' (some g)) (hne : b ≠ g) : Blk w' b t cs := h.grown hg (fun e => hne (by cases e; rfl))

def accP (cl sq er : Int) : Nat → List UInt8
  | 0 => []
  | 1 => vb cl.toNat
  | 2 => vb cl.toNat ++ vb sq.toNat
  | _ => (vb cl.toNat ++ vb sq.toNat) ++ vb er.toNat
theorem accP_len (cl sq er : Int) (k : Nat) (h1 : (vb cl.toNat).length ≤ 9) (h2 : (vb sq.toNat).length ≤ 9) (h3 : (vb er.toNat).length ≤ 9) : (accP cl sq er k).length ≤ 27 := by
  match k with
  | 0 => exact Nat.zero_le _
  | 1 => show (vb cl.toNat).length ≤ 27; omega
  | 2 => show (vb cl.toNat ++ vb sq.toNat).length ≤ 27; rw [List.length_append]; omega
  | k + 3 => show ((vb cl.toNat ++ vb sq.toNat) ++ vb er.toNat).length ≤ 27; rw [List.length_append, List.length_append]; omega
end Go.Proofs.YtdgbpmbknlhgmaaGreatDoor
set_option linter.unusedVariables false
set_option linter.unusedSimpArgs false
namespace Go.Proofs.YtdgbpmbknlhgmaaGreatDoor
open Go.RowKit Qt Vm

theorem own_mono {w : World} {base base' : Nat} {e : TypeId} {size n : Nat} {v : Value} {xs : List Value} (h : w.ownsRow base e size v n xs) (hb : base' ≤ base) : w.ownsRow base' e size v n xs :=
  ⟨h.1, h.2.imp id fun ⟨g, cap, cur, h1, h2, h3⟩ => ⟨g, cap, cur, h1, Nat.le_trans hb h2, h3⟩⟩
/-- bytes of the call's own, so far. -/
def Sofar (w w' : World) (A : Option Addr) (n c : Nat) (l : List UInt8) : Prop := w'.ownsRow w.heap.size 5 1 (.slice A n c) n (Lib.byteCells l) ∧ Below w.heap.size w w'
theorem Sofar.call {w w1 w2 : World} {A : Option Addr} {n c : Nat} {l : List UInt8} (h : Sofar w w1 A n c l) (hb : Below w1.heap.size w1 w2) : Sofar w w2 A n c l := ⟨own_below h.1 hb, h.2.trans (hb.mono h.2.size)⟩
theorem Sofar.len {w w1 : World} {A : Option Addr} {n c : Nat} {l : List UInt8} (h : Sofar w w1 A n c l) : l.length = n := (BAt.own h.1).len

theorem Sofar.append {w w2 w3 : World} {A : Option Addr} {n c k : Nat} {l x : List UInt8} {v' : Value} (S : Sofar w w2 A n c l) (ho : w3.ownsRow w.heap.size 5 1 v' (n + k) (Lib.byteCells l ++ Lib.byteCells x)) (hg : w2.grownBy w3 (Value.slice A n c).ownBlock) :
    ∃ A' c', v' = .slice A' (n + k) c' ∧ Sofar w w3 A' (n + k) c' (l ++ x) := by
  obtain ⟨A', c', rfl⟩ := own_form ho
  exact ⟨A', c', rfl, by rw [Lib.byteCells_append]; exact ho, S.2.grown hg S.2.size (fun k hk => (S.1.lt k hk).1)⟩
theorem Sofar.done {w W w' : World} {A : Option Addr} {n c : Nat} {l : List UInt8} (S : Sofar W w' A n c l) (h : Below w.heap.size w W) : w'.ownsRow w.heap.size 5 1 (.slice A n c) n (Lib.byteCells l) ∧ Below w.heap.size w w' := ⟨own_mono S.1 h.size, h.trans (S.2.mono h.size)⟩

end Go.Proofs.YtdgbpmbknlhgmaaGreatDoor
