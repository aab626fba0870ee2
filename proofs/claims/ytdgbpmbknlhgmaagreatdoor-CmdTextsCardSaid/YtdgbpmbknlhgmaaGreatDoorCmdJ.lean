/-
The walks through cmd.name, cmd.Text. (Printed by gen_cmdj.py.)
-/
import Derived.Test.YtdgbpmbknlhgmaaGreatDoorCmdI
import Derived.Test.YtdgbpmbknlhgmaaGreatDoorDig
import Derived.Test.YtdgbpmbknlhgmaaGreatDoorLawQ
set_option linter.unusedVariables false
set_option linter.unusedSimpArgs false
namespace Go.Proofs.YtdgbpmbknlhgmaaGreatDoor
open Go.RowKit Qt Vm

/-- a kind's word. -/
def nameN : Nat → List UInt8
  | 0 => []
  | 1 => [110, 111, 112]
  | 2 => [112, 117, 116]
  | 3 => [103, 101, 116]
  | 4 => [100, 101, 108]
  | 5 => [99, 97, 115]
  | 6 => [97, 99, 116, 105, 118, 97, 116, 101]
  | 7 => [97, 100, 100]
  | _ => [100, 114, 111, 112]
set_option maxHeartbeats 1000000 in
set_option maxRecDepth 100000 in
theorem name0_calls (w : World) : Calls Tryz.prog 54 #[.int .i64 0] w fun e w' => e = .returned (.string ⟨#[]⟩) ∧ w = w' := by
  have i0 : ∀ w, (Instr.index 135 (.agg #[.string ⟨#[]⟩, .string ⟨#[110, 111, 112]⟩, .string ⟨#[112, 117, 116]⟩, .string ⟨#[103, 101, 116]⟩, .string ⟨#[100, 101, 108]⟩, .string ⟨#[99, 97, 115]⟩, .string ⟨#[97, 99, 116, 105, 118, 97, 116, 101]⟩, .string ⟨#[97, 100, 100]⟩, .string ⟨#[100, 114, 111, 112]⟩]) (.int .i64 0)).run Tryz.prog w = .ok (.string ⟨#[]⟩) w := fun _ => by kernel_rfl
  go_enter Tryz.func54, Tryz.ntmps54
  go_wp2
  go_ret
  exact ⟨rfl, rfl⟩
set_option maxHeartbeats 1000000 in
set_option maxRecDepth 100000 in
theorem name1_calls (w : World) : Calls Tryz.prog 54 #[.int .i64 1] w fun e w' => e = .returned (.string ⟨#[110, 111, 112]⟩) ∧ w = w' := by
  have i0 : ∀ w, (Instr.index 135 (.agg #[.string ⟨#[]⟩, .string ⟨#[110, 111, 112]⟩, .string ⟨#[112, 117, 116]⟩, .string ⟨#[103, 101, 116]⟩, .string ⟨#[100, 101, 108]⟩, .string ⟨#[99, 97, 115]⟩, .string ⟨#[97, 99, 116, 105, 118, 97, 116, 101]⟩, .string ⟨#[97, 100, 100]⟩, .string ⟨#[100, 114, 111, 112]⟩]) (.int .i64 1)).run Tryz.prog w = .ok (.string ⟨#[110, 111, 112]⟩) w := fun _ => by kernel_rfl
  go_enter Tryz.func54, Tryz.ntmps54
  go_wp2
  go_ret
  exact ⟨rfl, rfl⟩
set_option maxHeartbeats 1000000 in
set_option maxRecDepth 100000 in
theorem name2_calls (w : World) : Calls Tryz.prog 54 #[.int .i64 2] w fun e w' => e = .returned (.string ⟨#[112, 117, 116]⟩) ∧ w = w' := by
  have i0 : ∀ w, (Instr.index 135 (.agg #[.string ⟨#[]⟩, .string ⟨#[110, 111, 112]⟩, .string ⟨#[112, 117, 116]⟩, .string ⟨#[103, 101, 116]⟩, .string ⟨#[100, 101, 108]⟩, .string ⟨#[99, 97, 115]⟩, .string ⟨#[97, 99, 116, 105, 118, 97, 116, 101]⟩, .string ⟨#[97, 100, 100]⟩, .string ⟨#[100, 114, 111, 112]⟩]) (.int .i64 2)).run Tryz.prog w = .ok (.string ⟨#[112, 117, 116]⟩) w := fun _ => by kernel_rfl
  go_enter Tryz.func54, Tryz.ntmps54
  go_wp2
  go_ret
  exact ⟨rfl, rfl⟩
set_option maxHeartbeats 1000000 in
set_option maxRecDepth 100000 in
theorem name3_calls (w : World) : Calls Tryz.prog 54 #[.int .i64 3] w fun e w' => e = .returned (.string ⟨#[103, 101, 116]⟩) ∧ w = w' := by
  have i0 : ∀ w, (Instr.index 135 (.agg #[.string ⟨#[]⟩, .string ⟨#[110, 111, 112]⟩, .string ⟨#[112, 117, 116]⟩, .string ⟨#[103, 101, 116]⟩, .string ⟨#[100, 101, 108]⟩, .string ⟨#[99, 97, 115]⟩, .string ⟨#[97, 99, 116, 105, 118, 97, 116, 101]⟩, .string ⟨#[97, 100, 100]⟩, .string ⟨#[100, 114, 111, 112]⟩]) (.int .i64 3)).run Tryz.prog w = .ok (.string ⟨#[103, 101, 116]⟩) w := fun _ => by kernel_rfl
  go_enter Tryz.func54, Tryz.ntmps54
  go_wp2
  go_ret
  exact ⟨rfl, rfl⟩
set_option maxHeartbeats 1000000 in
set_option maxRecDepth 100000 in
theorem name4_calls (w : World) : Calls Tryz.prog 54 #[.int .i64 4] w fun e w' => e = .returned (.string ⟨#[100, 101, 108]⟩) ∧ w = w' := by
  have i0 : ∀ w, (Instr.index 135 (.agg #[.string ⟨#[]⟩, .string ⟨#[110, 111, 112]⟩, .string ⟨#[112, 117, 116]⟩, .string ⟨#[103, 101, 116]⟩, .string ⟨#[100, 101, 108]⟩, .string ⟨#[99, 97, 115]⟩, .string ⟨#[97, 99, 116, 105, 118, 97, 116, 101]⟩, .string ⟨#[97, 100, 100]⟩, .string ⟨#[100, 114, 111, 112]⟩]) (.int .i64 4)).run Tryz.prog w = .ok (.string ⟨#[100, 101, 108]⟩) w := fun _ => by kernel_rfl
  go_enter Tryz.func54, Tryz.ntmps54
  go_wp2
  go_ret
  exact ⟨rfl, rfl⟩
set_option maxHeartbeats 1000000 in
set_option maxRecDepth 100000 in
theorem name5_calls (w : World) : Calls Tryz.prog 54 #[.int .i64 5] w fun e w' => e = .returned (.string ⟨#[99, 97, 115]⟩) ∧ w = w' := by
  have i0 : ∀ w, (Instr.index 135 (.agg #[.string ⟨#[]⟩, .string ⟨#[110, 111, 112]⟩, .string ⟨#[112, 117, 116]⟩, .string ⟨#[103, 101, 116]⟩, .string ⟨#[100, 101, 108]⟩, .string ⟨#[99, 97, 115]⟩, .string ⟨#[97, 99, 116, 105, 118, 97, 116, 101]⟩, .string ⟨#[97, 100, 100]⟩, .string ⟨#[100, 114, 111, 112]⟩]) (.int .i64 5)).run Tryz.prog w = .ok (.string ⟨#[99, 97, 115]⟩) w := fun _ => by kernel_rfl
  go_enter Tryz.func54, Tryz.ntmps54
  go_wp2
  go_ret
  exact ⟨rfl, rfl⟩
set_option maxHeartbeats 1000000 in
set_option maxRecDepth 100000 in
theorem name6_calls (w : World) : Calls Tryz.prog 54 #[.int .i64 6] w fun e w' => e = .returned (.string ⟨#[97, 99, 116, 105, 118, 97, 116, 101]⟩) ∧ w = w' := by
  have i0 : ∀ w, (Instr.index 135 (.agg #[.string ⟨#[]⟩, .string ⟨#[110, 111, 112]⟩, .string ⟨#[112, 117, 116]⟩, .string ⟨#[103, 101, 116]⟩, .string ⟨#[100, 101, 108]⟩, .string ⟨#[99, 97, 115]⟩, .string ⟨#[97, 99, 116, 105, 118, 97, 116, 101]⟩, .string ⟨#[97, 100, 100]⟩, .string ⟨#[100, 114, 111, 112]⟩]) (.int .i64 6)).run Tryz.prog w = .ok (.string ⟨#[97, 99, 116, 105, 118, 97, 116, 101]⟩) w := fun _ => by kernel_rfl
  go_enter Tryz.func54, Tryz.ntmps54
  go_wp2
  go_ret
  exact ⟨rfl, rfl⟩
set_option maxHeartbeats 1000000 in
set_option maxRecDepth 100000 in
theorem name7_calls (w : World) : Calls Tryz.prog 54 #[.int .i64 7] w fun e w' => e = .returned (.string ⟨#[97, 100, 100]⟩) ∧ w = w' := by
  have i0 : ∀ w, (Instr.index 135 (.agg #[.string ⟨#[]⟩, .string ⟨#[110, 111, 112]⟩, .string ⟨#[112, 117, 116]⟩, .string ⟨#[103, 101, 116]⟩, .string ⟨#[100, 101, 108]⟩, .string ⟨#[99, 97, 115]⟩, .string ⟨#[97, 99, 116, 105, 118, 97, 116, 101]⟩, .string ⟨#[97, 100, 100]⟩, .string ⟨#[100, 114, 111, 112]⟩]) (.int .i64 7)).run Tryz.prog w = .ok (.string ⟨#[97, 100, 100]⟩) w := fun _ => by kernel_rfl
  go_enter Tryz.func54, Tryz.ntmps54
  go_wp2
  go_ret
  exact ⟨rfl, rfl⟩
set_option maxHeartbeats 1000000 in
set_option maxRecDepth 100000 in
theorem name8_calls (w : World) : Calls Tryz.prog 54 #[.int .i64 8] w fun e w' => e = .returned (.string ⟨#[100, 114, 111, 112]⟩) ∧ w = w' := by
  have i0 : ∀ w, (Instr.index 135 (.agg #[.string ⟨#[]⟩, .string ⟨#[110, 111, 112]⟩, .string ⟨#[112, 117, 116]⟩, .string ⟨#[103, 101, 116]⟩, .string ⟨#[100, 101, 108]⟩, .string ⟨#[99, 97, 115]⟩, .string ⟨#[97, 99, 116, 105, 118, 97, 116, 101]⟩, .string ⟨#[97, 100, 100]⟩, .string ⟨#[100, 114, 111, 112]⟩]) (.int .i64 8)).run Tryz.prog w = .ok (.string ⟨#[100, 114, 111, 112]⟩) w := fun _ => by kernel_rfl
  go_enter Tryz.func54, Tryz.ntmps54
  go_wp2
  go_ret
  exact ⟨rfl, rfl⟩
theorem name_calls (k : Nat) (hk : k ≤ 8) (w : World) :
    Calls Tryz.prog 54 #[.int .i64 (k : Int)] w fun e w' => e = .returned (.string (str (nameN k))) ∧ w = w' := by
  match k, hk with
  | 0, _ => exact name0_calls w
  | 1, _ => exact name1_calls w
  | 2, _ => exact name2_calls w
  | 3, _ => exact name3_calls w
  | 4, _ => exact name4_calls w
  | 5, _ => exact name5_calls w
  | 6, _ => exact name6_calls w
  | 7, _ => exact name7_calls w
  | 8, _ => exact name8_calls w
/-- a field's word. -/
def pW (x : CX) : Nat → List UInt8
  | 0 => Lib.decDigits x.client.toNat
  | 1 => Lib.decDigits x.seq.toNat
  | 2 => quote x.key
  | 3 => quote x.old
  | 4 => quote x.val
  | _ => Lib.decDigits x.node.toNat
/-- the words of a command's text, so far. -/
def cmdW (x : CX) : Nat → List (List UInt8)
  | 0 => [nameN x.kind.toNat]
  | k + 1 => if wantB k 2 x.kind = true then cmdW x k ++ [pW x k] else cmdW x k
def cmdT (x : CX) : List UInt8 := Lib.join (cmdW x 6) [32]
theorem dd_len {n most : Int} {h : Bool} (k : NumIs h most n) (h0 : 0 ≤ most) (h1 : most ≤ 4294967296) : (Lib.decDigits n.toNat).length ≤ 20 := by
  have := k.le h0
  exact dec_len20 _ (by omega)
theorem pW_len {x : CX} (h : x.Ok) (k : Nat) (hk : k < 6) : (pW x k).length ≤ 200 := by
  obtain ⟨s1, s2, s3⟩ := h.small
  match k, hk with
  | 0, _ => exact Nat.le_trans (dd_len h.client (by omega) (by omega)) (by omega)
  | 1, _ => exact Nat.le_trans (dd_len h.seq (by omega) (by omega)) (by omega)
  | 2, _ => exact Nat.le_trans (quote_len x.key) (by omega)
  | 3, _ => exact Nat.le_trans (quote_len x.old) (by omega)
  | 4, _ => exact Nat.le_trans (quote_len x.val) (by omega)
  | 5, _ => exact Nat.le_trans (dd_len h.node (by omega) (by omega)) (by omega)
theorem cmdW_len {x : CX} (h : x.Ok) : ∀ k, k ≤ 6 → (cmdW x k).length ≤ 1 + k ∧ (cmdW x k).flatten.length ≤ 10 + 200 * k := by
  intro k
  induction k with
  | zero =>
    intro _
    refine ⟨Nat.le_refl _, ?_⟩
    have : ∀ n, (nameN n).length ≤ 10 := fun n => by
      match n with
      | 0 | 1 | 2 | 3 | 4 | 5 | 6 | 7 => decide
      | n + 8 => exact (by decide : (nameN 8).length ≤ 10)
    simpa [cmdW] using this x.kind.toNat
  | succ k ih =>
    intro hk
    obtain ⟨h1, h2⟩ := ih (by omega)
    have h3 := pW_len h k (by omega)
    rw [cmdW]
    split
    · rw [List.length_append, List.flatten_append, List.length_append]
      simp only [List.length_cons, List.length_nil, List.flatten_cons, List.flatten_nil, List.append_nil]
      omega
    · omega
theorem cmdT_len {x : CX} (h : x.Ok) : (cmdT x).length ≤ 1217 := by
  obtain ⟨h1, h2⟩ := cmdW_len h 6 (Nat.le_refl _)
  have := join_len (cmdW x 6)
  unfold cmdT
  omega
theorem enter_p0 (args : Array Value) (w : World) : (callFunc 82 args).run Tryz.prog w = .ok (.enter 82 args) w := by kernel_rfl
theorem enter_p1 (args : Array Value) (w : World) : (callFunc 83 args).run Tryz.prog w = .ok (.enter 83 args) w := by kernel_rfl
theorem enter_p2 (args : Array Value) (w : World) : (callFunc 85 args).run Tryz.prog w = .ok (.enter 85 args) w := by kernel_rfl
theorem enter_p3 (args : Array Value) (w : World) : (callFunc 87 args).run Tryz.prog w = .ok (.enter 87 args) w := by kernel_rfl
theorem enter_p4 (args : Array Value) (w : World) : (callFunc 88 args).run Tryz.prog w = .ok (.enter 88 args) w := by kernel_rfl
theorem enter_p5 (args : Array Value) (w : World) : (callFunc 89 args).run Tryz.prog w = .ok (.enter 89 args) w := by kernel_rfl
theorem pfn_enter (i : Nat) (args : Array Value) (w : World) : (callFunc (pFn i) args).run Tryz.prog w = .ok (.enter (pFn i) args) w := by
  match i with
  | 0 => exact enter_p0 args w
  | 1 => exact enter_p1 args w
  | 2 => exact enter_p2 args w
  | 3 => exact enter_p3 args w
  | 4 => exact enter_p4 args w
  | i + 5 => exact enter_p5 args w
/-- where a part's field lies, and what a part's function gives. -/
theorem at_calls (i : Nat) (hi : i < 6) (x : CX) (h : x.Ok) :
    (∃ (o n : Nat), (∀ (g : Nat) (w : World), Calls Tryz.prog (pFn i) #[.pointer (some ⟨g, 0, none⟩)] w fun e w' => e = .returned (.iface 89 (.pointer (some ⟨g, o, none⟩))) ∧ w = w') ∧ x.cells[o]? = some (.int .i64 (n : Int)) ∧ n ≤ 9223372036854775807 ∧ pW x i = Lib.decDigits n) ∨
    (∃ (o : Nat) (t : List UInt8), (∀ (g : Nat) (w : World), Calls Tryz.prog (pFn i) #[.pointer (some ⟨g, 0, none⟩)] w fun e w' => e = .returned (.iface 90 (.pointer (some ⟨g, o, none⟩))) ∧ w = w') ∧ x.cells[o]? = some (.string (str t)) ∧ t.length ≤ 48 ∧ pW x i = quote t) := by
  obtain ⟨s1, s2, s3⟩ := h.small
  have h1 := h.client.le (by omega)
  have h2 := h.seq.le (by omega)
  have h3 := h.node.le (by omega)
  match i, hi with
  | 0, _ => exact .inl ⟨1, x.client.toNat, at0_calls, by rw [Int.toNat_of_nonneg h1.1]; rfl, by omega, rfl⟩
  | 1, _ => exact .inl ⟨2, x.seq.toNat, at1_calls, by rw [Int.toNat_of_nonneg h2.1]; rfl, by omega, rfl⟩
  | 2, _ => exact .inr ⟨3, x.key, at2_calls, rfl, s1, rfl⟩
  | 3, _ => exact .inr ⟨5, x.old, at3_calls, rfl, s2, rfl⟩
  | 4, _ => exact .inr ⟨4, x.val, at4_calls, rfl, s3, rfl⟩
  | 5, _ => exact .inl ⟨6, x.node.toNat, at5_calls, by rw [Int.toNat_of_nonneg h3.1]; rfl, by omega, rfl⟩

set_option maxHeartbeats 2000000 in
set_option maxRecDepth 100000 in
theorem cmdtext_no (x : CX) (w : World) (hs : x.short) (hT : Lib.Utf8Tabs 0 1 w) (h : cmdE x ≠ 0) :
    Calls Tryz.prog 23 #[x.value] w fun e w' => e = .returned (.string ⟨#[]⟩) ∧ Below w.heap.size w w' := by
  obtain ⟨W, hW⟩ : ∃ W, W = w.alloc (.cells x.cells 23) := ⟨_, rfl⟩
  have hbW : Hid (Below w.heap.size w W) := by subst hW; exact (Below.refl _ _).alloc (Nat.le_refl _) _
  have hB : Hid (Blk W w.heap.size 23 x.cells) := by subst hW; exact Blk.new _ _ _
  have HC := Lib.hid (cmdcheck_calls x W hs (Utf8Tabs_below hT hbW.out))
  have t1 : (cmdE x == 0) = false := beq_eq_false_iff_ne.2 h
  obtain ⟨kc, kf, hlt⟩ := hB.out.facts
  clear h hT hs
  generalize cmdE x = ce at *
  go_enter Tryz.func23, Tryz.ntmps23
  go_wp2_with (fail)
  rw [← hW]
  clear hW
  refine HC.out.mono ?_
  rintro e w1 ⟨rfl, hb⟩
  have hb1 : Hid (Below w.heap.size w w1) := hbW.out.trans (hb.mono hbW.out.size)
  clear kc kf hlt hb hB HC
  go_wp2_with (fail)
  go_ret
  exact ⟨rfl, hb1.out⟩

theorem own_one (w : World) (u : Value) (e : TypeId) : (w.alloc (.cells #[u] e)).ownsRow w.heap.size e 1 (.slice (some ⟨w.heap.size, 0, none⟩) 1 1) 1 [u] :=
  ⟨rfl, .inr ⟨w.heap.size, 1, _, rfl, Nat.le_refl _, heap_alloc_new w _, Nat.le_refl _, by decide, rfl, rfl⟩⟩
/-- a block of another kind stays where a row of texts grows. -/
theorem Blk.stays {w w1 w' : World} {base g n : Nat} {t : TypeId} {cs : Array Value} {v : Value} {xs : List Value} (h : Blk w g t cs) (h1 : Blk w1 g t cs) (ho : w.ownsRow base 9 1 v n xs) (hne : 9 ≠ t) (hg : w1.grownBy w' v.ownBlock) : Blk w' g t cs :=
  h1.grown hg (own_blk_ne ho h hne).symm
set_option maxHeartbeats 4000000 in
set_option maxRecDepth 100000 in
theorem cmdtext_ok (x : CX) (w : World) (hv : AVars w) (h : cmdE x = 0) :
    Calls Tryz.prog 23 #[x.value] w fun e w' => e = .returned (.string (str (cmdT x))) ∧ Below w.heap.size w w' := by
  have hok := cmd_ok h
  have hkk := hok.kind
  obtain ⟨i0, hi, hz0, hz1, hz2⟩ := info_parts str_info
  obtain ⟨W, hW⟩ : ∃ W, W = w.alloc (.cells x.cells 23) := ⟨_, rfl⟩
  have hbW : Hid (Below w.heap.size w W) := by subst hW; exact (Below.refl _ _).alloc (Nat.le_refl _) _
  have hB : Hid (Blk W w.heap.size 23 x.cells) := by subst hW; exact Blk.new _ _ _
  have HC := cmdcheck_calls x W hok.tiny.short (Utf8Tabs_below hv.q.tab hbW.out)
  rw [h] at HC
  have HC := Lib.hid HC
  have HN := fun w1 => name_calls x.kind.toNat (by omega) w1
  rw [Int.toNat_of_nonneg (by omega)] at HN
  have HN := Lib.hid HN
  have HA := Lib.hid (fun i hi => at_calls i hi x hok)
  have hv' := Lib.hid hv
  have hcl := Lib.hid (fun k hk => cmdW_len hok k hk)
  have hTl := cmdT_len hok
  have hT : Hid (Lib.join (cmdW x 6) [32] = cmdT x) := rfl
  obtain ⟨kc, kf, hlt⟩ := hB.out.facts
  have c0 := kc 0
  simp only [List.getElem?_toArray, List.getElem?_cons_zero, List.getElem?_cons_succ] at c0
  clear h hv hok hkk
  go_enter Tryz.func23, Tryz.ntmps23
  go_wp2_with (fail)
  rw [← hW]
  clear hW
  refine HC.out.mono ?_
  rintro e w1 ⟨rfl, hb⟩
  have hB1 := Lib.hid (hB.out.call hb)
  have hb1 : Hid (Below w.heap.size w w1) := hbW.out.trans (hb.mono hbW.out.size)
  clear kc kf hlt hb hB HC c0 hbW
  obtain ⟨kc, kf, hlt⟩ := hB1.out.facts
  have c0 := kc 0
  simp only [List.getElem?_toArray, List.getElem?_cons_zero, List.getElem?_cons_succ] at c0
  go_wp2_with (fail)
  refine (HN.out _).mono ?_
  rintro e w2 ⟨rfl, rfl⟩
  have hbx := hb1.out.size
  go_wp2_with (fail)
  obtain ⟨WB, hWB⟩ : ∃ WB, WB = w1.alloc (.cells #[.string (str (nameN x.kind.toNat))] 9) := ⟨_, rfl⟩
  have hown : Hid (WB.ownsRow w.heap.size 9 1 (.slice (some ⟨w1.heap.size, 0, none⟩) 1 1) 1 (sc (cmdW x 0))) := by subst hWB; exact own_mono (own_one w1 (.string (str (nameN x.kind.toNat))) 9) hbx
  have hbB : Below w1.heap.size w1 WB := by subst hWB; exact (Below.refl _ _).alloc (Nat.le_refl _) _
  have hB2 := Lib.hid (hB1.out.call hbB)
  have hb2 : Hid (Below w.heap.size w WB) := hb1.out.trans (hbB.mono hbx)
  rw [← hWB]
  clear hWB hbB hB1 hb1 kc kf hlt c0 HN
  refine (parts_blk _).mono ?_
  rintro e w3 ⟨rfl, hP, hb⟩
  obtain ⟨pb, hpb⟩ : ∃ pb, pb = WB.heap.size := ⟨_, rfl⟩
  rw [← hpb] at hP ⊢
  have hP3 := Lib.hid hP
  have hB3 := Lib.hid (hB2.out.call hb)
  have hb3 : Hid (Below w.heap.size w w3) := hb2.out.trans (hb.mono hb2.out.size)
  have hown3 := Lib.hid (own_below hown.out hb)
  clear hP hb hB2 hb2 hown hpb
  go_wp2_with (fail)
  go_loopw [17, 3] (fun i o wr => ∃ (k n c : Nat) (A : Option Addr), k ≤ 6 ∧ i = .int .i64 (k : Int) ∧ o = .slice A n c ∧ n ≤ c ∧ n ≤ 1 + k ∧ Hid (Blk wr pb 75 partsC) ∧ Hid (Blk wr w.heap.size 23 x.cells) ∧ Hid (wr.ownsRow w.heap.size 9 1 (.slice A n c) n (sc (cmdW x k))) ∧ Hid (Below w.heap.size w wr)) (fun i _ _ => 6 - (intOf i).toNat)
  case atStart => exact ⟨0, 1, 1, _, by omega, rfl, rfl, Nat.le_refl _, Nat.le_refl _, hP3, hB3, hown3, hb3⟩
  case round =>
    obtain ⟨k, n, c, A, hk, rfl, rfl, hnc, hnk, hP, hB, hown, hb⟩ := hrel
    clear hP3 hB3 hown3 hb3 hbx
    by_cases hk6 : k < 6
    · obtain ⟨p0, p1, p2, p3⟩ := (PartsAt.of hP.out).1 k hk6
      have plt := hP.out.lt
      have hWa := wanted_calls k 2 x.kind
      have e1 : Hid (cmdW x (k + 1) = if wantB k 2 x.kind = true then cmdW x k ++ [pW x k] else cmdW x k) := rfl
      have HAk := HA.out k hk6
      generalize cmdW x k = L at *
      generalize wantB k 2 x.kind = wt at *
      simp only [partA] at hWa
      obtain ⟨kc, kf, hlt⟩ := hB.out.facts
      have c0 := kc 0
      simp only [List.getElem?_toArray, List.getElem?_cons_zero, List.getElem?_cons_succ] at c0
      have hgr : w.heap.size ≤ wr.heap.size := hb.out.size
      generalize pW x k = wd at *
      clear kc
      rcases pIs_cases k with hpi | ⟨fn, hpi⟩
      · rw [hpi] at p2 hWa
        have hWa := Lib.hid hWa
        clear hpi
        go_wp2_with (fail)
        clear p0 p1 p2 p3 plt c0 kf hlt
        obtain ⟨WA, hWA⟩ : ∃ WA, WA = wr.alloc (.cells #[.int .i64 (pHas k), .int .i64 (pMost k), .nilFunc, .func (.func (pFn k)) #[] #[]] 75) := ⟨_, rfl⟩
        rw [← hWA]
        have hbA : Hid (Below wr.heap.size wr WA) := by subst hWA; exact (Below.refl _ _).alloc (Nat.le_refl _) _
        have hAP : Hid (Blk WA wr.heap.size 75 #[.int .i64 (pHas k), .int .i64 (pMost k), .nilFunc, .func (.func (pFn k)) #[] #[]]) := by subst hWA; exact Blk.new _ _ _
        clear hWA
        refine (hWa.out WA).mono ?_
        rintro e wa ⟨rfl, hb9⟩
        have hba : Below wr.heap.size wr wa := hbA.out.trans (hb9.mono hbA.out.size)
        have hAP2 := Lib.hid (hAP.out.call hb9)
        have hAB2 := Lib.hid (hB.out.call hba)
        have hPA2 := Lib.hid (hP.out.call hba)
        have hAw2 := Lib.hid (own_below hown.out hba)
        have hAG2 : Hid (Below w.heap.size w wa) := hb.out.trans (hba.mono hgr)
        have hgr2 : w.heap.size ≤ wa.heap.size := Nat.le_trans hgr hba.size
        clear hb9 hbA hba hAP hB hP hown hb hWa
        cases wt
        · have e2 : Hid (cmdW x (k + 1) = L) := e1
          clear e1
          go_wp2_with (fail)
          go_roundw
          case rel => exact ⟨k + 1, n, c, A, by omega, by go_num, rfl, hnc, by omega, hPA2, hAB2, by rw [e2.out]; exact hAw2, hAG2⟩
          case measure => simp [intOf]; omega
        · have e2 : Hid (cmdW x (k + 1) = L ++ [wd]) := e1
          obtain ⟨kd, kg, hlu⟩ := hAP2.out.facts
          clear e1
          rcases HAk with ⟨o, m, ha, hco, hm, hwd⟩ | ⟨o, t, ha, hco, hm, hwd⟩
          · have T1 := ta_ii
            have hA := Lib.hid ha
            have cE := (hAB2.out.cell o).trans hco
            have fE := hAB2.out.frozen o
            have lE := hAB2.out.lt
            have HI := Lib.hid (itoa_calls m wa hm (hv'.out.below hAG2.out).t)
            clear ha hco hm
            go_wp2_with (fail)
            rw [pfn_enter, Oper.upon_enter]
            refine (hA.out _ _).mono ?_
            rintro e wb ⟨rfl, rfl⟩
            go_wp2_with (fail)
            refine HI.out.mono ?_
            rintro e wb ⟨rfl, hb9⟩
            have hPA3 := Lib.hid (hPA2.out.call hb9)
            have hAB3 := Lib.hid (hAB2.out.call hb9)
            have own3 := own_below hAw2.out hb9
            have hAG3 : Hid (Below w.heap.size w wb) := hAG2.out.trans (hb9.mono hgr2)
            have hgr3 : w.heap.size ≤ wb.heap.size := Nat.le_trans hgr2 hb9.size
            clear kd kg hlu cE fE lE hb9 hPA2 hAB2 hAw2 hAG2 hAP2 HI hA
            go_wp2_with (at_builtin; refine wpList_append_own _ rfl _ _ 83 rfl w.heap.size 9 i0 (.string ByteArray.empty) 1 16 Tryz.underlying83 hi hz0 hz1 hz2 rfl (by decide) _ _ _ rfl (own3.alloc _) ⟨wb.heap.size, 0, none⟩ 1 1 [.string (str (Lib.decDigits m))] rfl rfl (new_cell _ _ _) (one_str _) (by unfold maxLen; omega) (by omega) (by simp; omega) ?_)
            intro v' w9 hown' hgrow _
            rw [← sc_snoc, ← hwd, ← e2.out] at hown'
            have hb4 : Hid (Below w.heap.size w w9) := (hAG3.out.alloc hgr3 _).grown hgrow (by simp; omega) (fun k hk => (own3.lt k hk).1)
            have hP4 : Hid (Blk w9 pb 75 partsC) := Blk.stays hPA3.out (hPA3.out.alloc _) own3 (by decide) hgrow
            have hB4 : Hid (Blk w9 w.heap.size 23 x.cells) := Blk.stays hAB3.out (hAB3.out.alloc _) own3 (by decide) hgrow
            obtain ⟨A', c', rfl⟩ := own_form hown'
            have hown4 := Lib.hid hown'
            have hc4 := own_cap hown'
            clear hown' hgrow own3 hPA3 hAB3 hAG3
            go_wp2_with (fail)
            go_roundw
            case rel => exact ⟨k + 1, n + 1, c', A', by omega, by go_num, rfl, hc4, by omega, hP4, hB4, hown4, hb4⟩
            case measure => simp [intOf]; omega
          · have T1 := ta_si
            have T2 := ta_ss
            have hA := Lib.hid ha
            have cE := (hAB2.out.cell o).trans hco
            have fE := hAB2.out.frozen o
            have lE := hAB2.out.lt
            have HI := quote_calls (str t) wa (by rw [str_size]; omega) (hv'.out.below hAG2.out).q.tab
            rw [toL_str] at HI
            have HI := Lib.hid HI
            clear ha hco hm
            go_wp2_with (fail)
            rw [pfn_enter, Oper.upon_enter]
            refine (hA.out _ _).mono ?_
            rintro e wb ⟨rfl, rfl⟩
            go_wp2_with (fail)
            refine HI.out.mono ?_
            rintro e wb ⟨rfl, hb9⟩
            have hPA3 := Lib.hid (hPA2.out.call hb9)
            have hAB3 := Lib.hid (hAB2.out.call hb9)
            have own3 := own_below hAw2.out hb9
            have hAG3 : Hid (Below w.heap.size w wb) := hAG2.out.trans (hb9.mono hgr2)
            have hgr3 : w.heap.size ≤ wb.heap.size := Nat.le_trans hgr2 hb9.size
            clear kd kg hlu cE fE lE hb9 hPA2 hAB2 hAw2 hAG2 hAP2 HI hA
            go_wp2_with (at_builtin; refine wpList_append_own _ rfl _ _ 83 rfl w.heap.size 9 i0 (.string ByteArray.empty) 1 16 Tryz.underlying83 hi hz0 hz1 hz2 rfl (by decide) _ _ _ rfl (own3.alloc _) ⟨wb.heap.size, 0, none⟩ 1 1 [.string (str (quote t))] rfl rfl (new_cell _ _ _) (one_str _) (by unfold maxLen; omega) (by omega) (by simp; omega) ?_)
            intro v' w9 hown' hgrow _
            rw [← sc_snoc, ← hwd, ← e2.out] at hown'
            have hb4 : Hid (Below w.heap.size w w9) := (hAG3.out.alloc hgr3 _).grown hgrow (by simp; omega) (fun k hk => (own3.lt k hk).1)
            have hP4 : Hid (Blk w9 pb 75 partsC) := Blk.stays hPA3.out (hPA3.out.alloc _) own3 (by decide) hgrow
            have hB4 : Hid (Blk w9 w.heap.size 23 x.cells) := Blk.stays hAB3.out (hAB3.out.alloc _) own3 (by decide) hgrow
            obtain ⟨A', c', rfl⟩ := own_form hown'
            have hown4 := Lib.hid hown'
            have hc4 := own_cap hown'
            clear hown' hgrow own3 hPA3 hAB3 hAG3
            go_wp2_with (fail)
            go_roundw
            case rel => exact ⟨k + 1, n + 1, c', A', by omega, by go_num, rfl, hc4, by omega, hP4, hB4, hown4, hb4⟩
            case measure => simp [intOf]; omega
      · rw [hpi] at p2 hWa
        have hWa := Lib.hid hWa
        clear hpi
        go_wp2_with (fail)
        clear p0 p1 p2 p3 plt c0 kf hlt
        obtain ⟨WA, hWA⟩ : ∃ WA, WA = wr.alloc (.cells #[.int .i64 (pHas k), .int .i64 (pMost k), .func (.func fn) #[] #[], .func (.func (pFn k)) #[] #[]] 75) := ⟨_, rfl⟩
        rw [← hWA]
        have hbA : Hid (Below wr.heap.size wr WA) := by subst hWA; exact (Below.refl _ _).alloc (Nat.le_refl _) _
        have hAP : Hid (Blk WA wr.heap.size 75 #[.int .i64 (pHas k), .int .i64 (pMost k), .func (.func fn) #[] #[], .func (.func (pFn k)) #[] #[]]) := by subst hWA; exact Blk.new _ _ _
        clear hWA
        refine (hWa.out WA).mono ?_
        rintro e wa ⟨rfl, hb9⟩
        have hba : Below wr.heap.size wr wa := hbA.out.trans (hb9.mono hbA.out.size)
        have hAP2 := Lib.hid (hAP.out.call hb9)
        have hAB2 := Lib.hid (hB.out.call hba)
        have hPA2 := Lib.hid (hP.out.call hba)
        have hAw2 := Lib.hid (own_below hown.out hba)
        have hAG2 : Hid (Below w.heap.size w wa) := hb.out.trans (hba.mono hgr)
        have hgr2 : w.heap.size ≤ wa.heap.size := Nat.le_trans hgr hba.size
        clear hb9 hbA hba hAP hB hP hown hb hWa
        cases wt
        · have e2 : Hid (cmdW x (k + 1) = L) := e1
          clear e1
          go_wp2_with (fail)
          go_roundw
          case rel => exact ⟨k + 1, n, c, A, by omega, by go_num, rfl, hnc, by omega, hPA2, hAB2, by rw [e2.out]; exact hAw2, hAG2⟩
          case measure => simp [intOf]; omega
        · have e2 : Hid (cmdW x (k + 1) = L ++ [wd]) := e1
          obtain ⟨kd, kg, hlu⟩ := hAP2.out.facts
          clear e1
          rcases HAk with ⟨o, m, ha, hco, hm, hwd⟩ | ⟨o, t, ha, hco, hm, hwd⟩
          · have T1 := ta_ii
            have hA := Lib.hid ha
            have cE := (hAB2.out.cell o).trans hco
            have fE := hAB2.out.frozen o
            have lE := hAB2.out.lt
            have HI := Lib.hid (itoa_calls m wa hm (hv'.out.below hAG2.out).t)
            clear ha hco hm
            go_wp2_with (fail)
            rw [pfn_enter, Oper.upon_enter]
            refine (hA.out _ _).mono ?_
            rintro e wb ⟨rfl, rfl⟩
            go_wp2_with (fail)
            refine HI.out.mono ?_
            rintro e wb ⟨rfl, hb9⟩
            have hPA3 := Lib.hid (hPA2.out.call hb9)
            have hAB3 := Lib.hid (hAB2.out.call hb9)
            have own3 := own_below hAw2.out hb9
            have hAG3 : Hid (Below w.heap.size w wb) := hAG2.out.trans (hb9.mono hgr2)
            have hgr3 : w.heap.size ≤ wb.heap.size := Nat.le_trans hgr2 hb9.size
            clear kd kg hlu cE fE lE hb9 hPA2 hAB2 hAw2 hAG2 hAP2 HI hA
            go_wp2_with (at_builtin; refine wpList_append_own _ rfl _ _ 83 rfl w.heap.size 9 i0 (.string ByteArray.empty) 1 16 Tryz.underlying83 hi hz0 hz1 hz2 rfl (by decide) _ _ _ rfl (own3.alloc _) ⟨wb.heap.size, 0, none⟩ 1 1 [.string (str (Lib.decDigits m))] rfl rfl (new_cell _ _ _) (one_str _) (by unfold maxLen; omega) (by omega) (by simp; omega) ?_)
            intro v' w9 hown' hgrow _
            rw [← sc_snoc, ← hwd, ← e2.out] at hown'
            have hb4 : Hid (Below w.heap.size w w9) := (hAG3.out.alloc hgr3 _).grown hgrow (by simp; omega) (fun k hk => (own3.lt k hk).1)
            have hP4 : Hid (Blk w9 pb 75 partsC) := Blk.stays hPA3.out (hPA3.out.alloc _) own3 (by decide) hgrow
            have hB4 : Hid (Blk w9 w.heap.size 23 x.cells) := Blk.stays hAB3.out (hAB3.out.alloc _) own3 (by decide) hgrow
            obtain ⟨A', c', rfl⟩ := own_form hown'
            have hown4 := Lib.hid hown'
            have hc4 := own_cap hown'
            clear hown' hgrow own3 hPA3 hAB3 hAG3
            go_wp2_with (fail)
            go_roundw
            case rel => exact ⟨k + 1, n + 1, c', A', by omega, by go_num, rfl, hc4, by omega, hP4, hB4, hown4, hb4⟩
            case measure => simp [intOf]; omega
          · have T1 := ta_si
            have T2 := ta_ss
            have hA := Lib.hid ha
            have cE := (hAB2.out.cell o).trans hco
            have fE := hAB2.out.frozen o
            have lE := hAB2.out.lt
            have HI := quote_calls (str t) wa (by rw [str_size]; omega) (hv'.out.below hAG2.out).q.tab
            rw [toL_str] at HI
            have HI := Lib.hid HI
            clear ha hco hm
            go_wp2_with (fail)
            rw [pfn_enter, Oper.upon_enter]
            refine (hA.out _ _).mono ?_
            rintro e wb ⟨rfl, rfl⟩
            go_wp2_with (fail)
            refine HI.out.mono ?_
            rintro e wb ⟨rfl, hb9⟩
            have hPA3 := Lib.hid (hPA2.out.call hb9)
            have hAB3 := Lib.hid (hAB2.out.call hb9)
            have own3 := own_below hAw2.out hb9
            have hAG3 : Hid (Below w.heap.size w wb) := hAG2.out.trans (hb9.mono hgr2)
            have hgr3 : w.heap.size ≤ wb.heap.size := Nat.le_trans hgr2 hb9.size
            clear kd kg hlu cE fE lE hb9 hPA2 hAB2 hAw2 hAG2 hAP2 HI hA
            go_wp2_with (at_builtin; refine wpList_append_own _ rfl _ _ 83 rfl w.heap.size 9 i0 (.string ByteArray.empty) 1 16 Tryz.underlying83 hi hz0 hz1 hz2 rfl (by decide) _ _ _ rfl (own3.alloc _) ⟨wb.heap.size, 0, none⟩ 1 1 [.string (str (quote t))] rfl rfl (new_cell _ _ _) (one_str _) (by unfold maxLen; omega) (by omega) (by simp; omega) ?_)
            intro v' w9 hown' hgrow _
            rw [← sc_snoc, ← hwd, ← e2.out] at hown'
            have hb4 : Hid (Below w.heap.size w w9) := (hAG3.out.alloc hgr3 _).grown hgrow (by simp; omega) (fun k hk => (own3.lt k hk).1)
            have hP4 : Hid (Blk w9 pb 75 partsC) := Blk.stays hPA3.out (hPA3.out.alloc _) own3 (by decide) hgrow
            have hB4 : Hid (Blk w9 w.heap.size 23 x.cells) := Blk.stays hAB3.out (hAB3.out.alloc _) own3 (by decide) hgrow
            obtain ⟨A', c', rfl⟩ := own_form hown'
            have hown4 := Lib.hid hown'
            have hc4 := own_cap hown'
            clear hown' hgrow own3 hPA3 hAB3 hAG3
            go_wp2_with (fail)
            go_roundw
            case rel => exact ⟨k + 1, n + 1, c', A', by omega, by go_num, rfl, hc4, by omega, hP4, hB4, hown4, hb4⟩
            case measure => simp [intOf]; omega
    · have hk6' : k = 6 := by omega
      subst hk6'
      clear hP hB HA
      obtain ⟨cl1, cl2⟩ := hcl.out 6 (Nat.le_refl _)
      have hL := line_calls A n c (cmdW x 6) wr hnc (by rw [hT.out]; omega) (by omega) (Reads.of_own hown.out)
      rw [hT.out] at hL
      have hL := Lib.hid hL
      have hgr : w.heap.size ≤ wr.heap.size := hb.out.size
      go_wp2_with (fail)
      refine hL.out.mono ?_
      rintro e w9 ⟨rfl, hb9⟩
      have hb8 : Hid (Below w.heap.size w w9) := hb.out.trans (hb9.mono hgr)
      clear hb9 hL
      go_wp2_with (fail)
      go_ret
      exact ⟨rfl, hb8.out⟩
end Go.Proofs.YtdgbpmbknlhgmaaGreatDoor
