/-
The walks back from quotes: changeoverref06.value, quote.digit, quote.unescape.
The walk through quote.unescape.
The walk through quote.Unquote.
-/
import Derived.Test.YtdgbpmbknlhgmaaGreatDoorQuoteR
import Derived.Laws.IdiomStrings
import Derived.Laws.BytesArg
import Derived.Laws.AppendOwn
import Derived.Lib.BufferRead
set_option linter.unusedVariables false
set_option linter.unusedSimpArgs false
namespace Go.Proofs.YtdgbpmbknlhgmaaGreatDoor
open Go.RowKit Qt

/-- a hexadecimal digit's number; below 0: it is none. -/
def dg (c : UInt8) : Int := match val c with | some v => (v : Int) | none => -1
theorem dg_lt (c : UInt8) : -1 ≤ dg c ∧ dg c ≤ 15 := by
  unfold dg val
  split
  · rename_i v h
    split at h
    · cases h; omega
    · split at h
      · cases h; omega
      · cases h
  · omega
theorem dg_val {c : UInt8} {v : Nat} (h : val c = some v) : dg c = (v : Int) := by unfold dg; rw [h]
theorem dg_none {c : UInt8} (h : val c = none) : dg c = -1 := by unfold dg; rw [h]
theorem index_hex (c : UInt8) : Lib.indexByte [48, 49, 50, 51, 52, 53, 54, 55, 56, 57, 97, 98, 99, 100, 101, 102] c = dg c := by
  have : ∀ n, n < 256 → Lib.indexByte [48, 49, 50, 51, 52, 53, 54, 55, 56, 57, 97, 98, 99, 100, 101, 102] (UInt8.ofNat n) = dg (UInt8.ofNat n) := by decide +kernel
  have h := this c.toNat c.toNat_lt
  rwa [UInt8.ofNat_toNat] at h

set_option maxHeartbeats 800000 in
theorem digit_calls (c : UInt8) (w : World) :
    Calls Tryz.prog 142 #[.int .u8 (c.toNat : Int)] w fun e w' => e = .returned (.int .i64 (dg c)) ∧ w = w' := by
  go_enter Tryz.func142, Tryz.ntmps142
  go_wp2_with (refine (Tryz.strings_IndexByte _ _ _).mono ?_)
  go_ret
  exact ⟨ret_int (index_hex c), rfl⟩

set_option maxRecDepth 100000 in
/-- 'string(b)' where the bytes lie in a row of the function's own. -/
theorem convert_own {w : World} {base : Nat} {A : Option Addr} {n c : Nat} {l : List UInt8} (h : w.ownsRow base 5 1 (.slice A n c) n (Lib.byteCells l)) :
    (convert 26 9 (.slice A n c)).run Tryz.prog w = .ok (.string (str l)) w := by
  have hn : l.length = n := by have := h.1; rw [Lib.byteCells_length] at this; omega
  subst hn
  cases A with
  | none =>
    have h0 : l = [] := by
      rcases h.2 with ⟨_, h0⟩ | ⟨g, cap, cur, hv, _⟩
      · exact List.eq_nil_of_length_eq_zero h0
      · injection hv with hA; cases hA
    subst h0
    have := Lib.run_convert_nil_bytes (P := Tryz.prog) w 26 9 5 c (by kernel_rfl) (by kernel_rfl) (by kernel_rfl)
    exact this
  | some a =>
    obtain ⟨g, rfl⟩ : ∃ g, a = ⟨g, 0, none⟩ := by
      rcases h.2 with ⟨hv, _⟩ | ⟨g, cap, cur, hv, _⟩
      · injection hv with hA; cases hA
      · injection hv with hA; injection hA with hA; exact ⟨g, hA⟩
    have hcs := h.cells (g := g) rfl
    refine run_convert_bytes_back (P := Tryz.prog) w 26 9 5 ⟨g, 0, none⟩ c l (by kernel_rfl) (by kernel_rfl) (by kernel_rfl) fun j hj => ?_
    refine hcs j _ ?_
    rw [Lib.byteCells, List.getElem?_map, List.getElem?_eq_getElem hj]
    rfl
end Go.Proofs.YtdgbpmbknlhgmaaGreatDoor
set_option linter.unusedVariables false
set_option linter.unusedSimpArgs false
namespace Go.Proofs.YtdgbpmbknlhgmaaGreatDoor
open Go.RowKit Qt

def ue (l : List UInt8) : UInt8 × Nat := (unesc1 l).getD (0, 0)
theorem ue_none {l : List UInt8} (h : unesc1 l = none) : ue l = (0, 0) := by unfold ue; rw [h]; rfl
theorem ue_some {l : List UInt8} {p : UInt8 × Nat} (h : unesc1 l = some p) : ue l = p := by unfold ue; rw [h]; rfl
theorem u8_eq (a : UInt8) (n : Nat) (h : n < 256) : (((a.toNat : Nat) : Int) == ((n : Nat) : Int)) = decide (a = UInt8.ofNat n) := by
  rw [i32_eq]
  by_cases hx : a = UInt8.ofNat n
  · subst hx
    simp [UInt8.toNat_ofNat_of_lt' h]
  · rw [decide_eq_false hx, decide_eq_false]
    intro e; exact hx (by rw [← e, UInt8.ofNat_toNat])
theorem str_at (l : List UInt8) (k : Nat) (h : k < (str l).size) : (str l)[k]'h = l.getD k 0 := by
  have := at_drop (str l) 0 k (by omega)
  rw [toL_str, List.drop_zero] at this
  rw [← this]; congr 1; omega

theorem str_toList (l : List UInt8) : (str l).toList = l := by rw [ByteArray.toList_eq]; rfl
theorem unesc_q (a : UInt8) (t : List UInt8) (h : a = 34 ∨ a = 92) : unesc1 (a :: t) = some (a, 1) := by simp only [unesc1]; rw [if_pos h]
theorem unesc_short (a : UInt8) (t : List UInt8) (h : ¬ (a = 34 ∨ a = 92)) (ht : t.length < 2) : unesc1 (a :: t) = none := by
  match t, ht with
  | [], _ => simp only [unesc1]; rw [if_neg h]
  | [x], _ => simp only [unesc1]; rw [if_neg h]
theorem unesc_long (a p q : UInt8) (t : List UInt8) (h : ¬ (a = 34 ∨ a = 92)) : unesc1 (a :: p :: q :: t) = if a = 120 then
        match val p, val q with
        | some x, some y => some (UInt8.ofNat (16 * x + y), 3)
        | _, _ => none
      else none := by
  simp only [unesc1]; rw [if_neg h]; rfl

theorem or16 (x y : Nat) (hx : x < 16) (hy : y < 16) : bits .or .i64 ((x : Int) * 16) (y : Int) % 256 = (((UInt8.ofNat (16 * x + y)).toNat : Nat) : Int) := by
  have : ∀ x : Nat, x < 16 → ∀ y : Nat, y < 16 → bits .or .i64 ((x : Int) * 16) (y : Int) % 256 = (((UInt8.ofNat (16 * x + y)).toNat : Nat) : Int) := by decide +kernel
  exact this x hx y hy
set_option maxHeartbeats 2000000 in
set_option maxRecDepth 100000 in
theorem unescape_calls (l : List UInt8) (w : World) (hl : l.length ≤ 1000000) :
    Calls Tryz.prog 124 #[.string (str l)] w fun e w' => e = .returned (.tuple #[.int .u8 ((ue l).1.toNat : Int), .int .i64 ((ue l).2 : Int)]) ∧ Below w.heap.size w w' := by
  have hsz := str_size l
  have hat := str_at l
  have hem := str_toList l
  match l, hl, hsz, hat, hem with
  | [], _, hsz, hat, hem =>
    clear hat
    have h0 : ue [] = (0, 0) := rfl
    have hsz : (str []).size = 0 := hsz
    rw [h0]
    generalize str [] = s at *
    go_enter Tryz.func124, Tryz.ntmps124
    go_wp2
    go_ret2
    exact ⟨rfl, Below.refl _ _⟩
  | a :: t, hl, hsz, hat, hem =>
    have hem : ¬ (str (a :: t)).toList = [] := by rw [hem]; exact List.cons_ne_nil _ _
    have h0 : ∀ h : 0 < (str (a :: t)).size, (str (a :: t))[0]'h = a := fun h => hat 0 h
    have hsz : (str (a :: t)).size = t.length + 1 := hsz
    have hll : t.length + 1 ≤ 1000000 := hl
    have e34 : ((a.toNat : Int) == 34) = decide (a = 34) := u8_eq a 34 (by omega)
    have e92 : ((a.toNat : Int) == 92) = decide (a = 92) := u8_eq a 92 (by omega)
    have e120 : ((a.toNat : Int) == 120) = decide (a = 120) := u8_eq a 120 (by omega)
    go_enter Tryz.func124, Tryz.ntmps124
    by_cases hq : a = 34 ∨ a = 92
    · have hu : ue (a :: t) = (a, 1) := ue_some (unesc_q a t hq)
      rw [hu]
      clear hat
      generalize str (a :: t) = s at *
      by_cases h34 : a = 34
      · rw [decide_eq_true h34] at e34
        clear hq h34
        go_wp2
        go_ret2
        exact ⟨rfl, Below.refl _ _⟩
      · rw [decide_eq_false h34] at e34
        rw [decide_eq_true (by simpa [h34] using hq)] at e92
        clear hq h34
        go_wp2
        go_ret2
        exact ⟨rfl, Below.refl _ _⟩
    rw [decide_eq_false (fun e => hq (.inl e))] at e34
    rw [decide_eq_false (fun e => hq (.inr e))] at e92
    by_cases hs : t.length < 2
    · have hu : ue (a :: t) = (0, 0) := ue_none (unesc_short a t hq hs)
      rw [hu]
      clear hat hq e120
      generalize str (a :: t) = s at *
      go_wp2
      go_ret2
      exact ⟨rfl, Below.refl _ _⟩
    obtain ⟨p, q, u, rfl⟩ : ∃ p q u, t = p :: q :: u := by
      match t, hs with
      | [], h => exact absurd (by decide : 0 < 2) h
      | [x], h => exact absurd (by decide : 1 < 2) h
      | p :: q :: u, _ => exact ⟨p, q, u, rfl⟩
    have h1 : ∀ h : 1 < (str (a :: p :: q :: u)).size, (str (a :: p :: q :: u))[1]'h = p := fun h => hat 1 h
    have h2 : ∀ h : 2 < (str (a :: p :: q :: u)).size, (str (a :: p :: q :: u))[2]'h = q := fun h => hat 2 h
    have hul := unesc_long a p q u hq
    have hsz : (str (a :: p :: q :: u)).size = u.length + 3 := hsz
    have hll : u.length + 3 ≤ 1000000 := hll
    clear hat hs
    by_cases hx : a = 120
    · have huf : Hid (unesc1 (a :: p :: q :: u) = match val p, val q with
          | some x, some y => some (UInt8.ofNat (16 * x + y), 3)
          | _, _ => none) := by show _ = _; rw [hul, if_pos hx]
      clear hul hq
      rw [decide_eq_true hx] at e120
      have hdp := dg_lt p
      have hdq := dg_lt q
      generalize str (a :: p :: q :: u) = s at *
      have hdc := digit_calls
      by_cases hp : dg p < 0
      · have hu : ue (a :: p :: q :: u) = (0, 0) := by
          refine ue_none ?_
          rw [huf.out]
          cases hv : val p with
          | none => rfl
          | some v => rw [dg_val hv] at hp; omega
        rw [hu]
        go_wp2_with (fail)
        refine (digit_calls p _).mono ?_
        rintro e w1 ⟨rfl, rfl⟩
        go_wp2_with (fail)
        go_ret2
        exact ⟨rfl, Below.refl _ _⟩
      by_cases hp2 : dg q < 0
      · have hu : ue (a :: p :: q :: u) = (0, 0) := by
          refine ue_none ?_
          rw [huf.out]
          cases hv : val p with
          | none => rfl
          | some v =>
            cases hw : val q with
            | none => rfl
            | some y => rw [dg_val hw] at hp2; omega
        rw [hu]
        go_wp2_with (fail)
        refine (digit_calls p _).mono ?_
        rintro e w1 ⟨rfl, rfl⟩
        go_wp2_with (fail)
        refine (digit_calls q _).mono ?_
        rintro e w1 ⟨rfl, rfl⟩
        go_wp2_with (fail)
        go_ret2
        exact ⟨rfl, Below.refl _ _⟩
      obtain ⟨x, hx1⟩ : ∃ x, val p = some x := by
        cases hv : val p with
        | none => rw [dg_none hv] at hp; omega
        | some v => exact ⟨v, rfl⟩
      obtain ⟨y, hy1⟩ : ∃ y, val q = some y := by
        cases hv : val q with
        | none => rw [dg_none hv] at hp2; omega
        | some v => exact ⟨v, rfl⟩
      have dp := digit_calls p
      have ddq := digit_calls q
      rw [dg_val hx1] at hp hdp dp
      rw [dg_val hy1] at hp2 hdq ddq
      have hu : ue (a :: p :: q :: u) = (UInt8.ofNat (16 * x + y), 3) := by
        refine ue_some ?_
        rw [huf.out, hx1, hy1]
      rw [hu]
      have hor := or16 x y (by omega) (by omega)
      clear huf hx1 hy1 hu hp hp2 hdc
      go_wp2_with (fail)
      refine (dp _).mono ?_
      rintro e w1 ⟨rfl, rfl⟩
      go_wp2_with (fail)
      refine (ddq _).mono ?_
      rintro e w1 ⟨rfl, rfl⟩
      go_wp2_with (fail)
      refine wp_region_quiet_below (by kernel_rfl) (by kernel_rfl) ?_
      repeat (go_big_quiet_step ((first | exact Calls.regrown_of ((dp _).mono fun _ _ ⟨h, e⟩ => ⟨h, e ▸ Below.refl _ _⟩) | exact Calls.regrown_of ((ddq _).mono fun _ _ ⟨h, e⟩ => ⟨h, e ▸ Below.refl _ _⟩))))
      refine wpQuiet_nil ?_
      intro _ hw'
      obtain ⟨⟨dq, osq⟩, hw''⟩ := hw'
      subst hw''
      rw [hor]
      go_wp2
      go_ret2
      exact ⟨rfl, below_regrown w dq osq⟩
    · have hu : ue (a :: p :: q :: u) = (0, 0) := ue_none (by rw [hul, if_neg hx])
      rw [hu]
      rw [decide_eq_false hx] at e120
      clear hul hq hx hu
      generalize str (a :: p :: q :: u) = s at *
      go_wp2
      go_ret2
      exact ⟨rfl, Below.refl _ _⟩
end Go.Proofs.YtdgbpmbknlhgmaaGreatDoor
set_option linter.unusedVariables false
set_option linter.unusedSimpArgs false
namespace Go.Proofs.YtdgbpmbknlhgmaaGreatDoor
open Go.RowKit Qt

def uqT (l : List UInt8) : List UInt8 := (unquote l).getD []
def uqE (l : List UInt8) : Int := if (unquote l).isSome then 0 else 3
theorem uq_none {l : List UInt8} (h : unquote l = none) : uqT l = [] ∧ uqE l = 3 := by unfold uqT uqE; rw [h]; exact ⟨rfl, rfl⟩
theorem uq_some {l x : List UInt8} (h : unquote l = some x) : uqT l = x ∧ uqE l = 0 := by unfold uqT uqE; rw [h]; exact ⟨rfl, rfl⟩
theorem unquote_short {l : List UInt8} (h : l.length < 2) : unquote l = none := by
  unfold unquote
  split
  · rfl
  · rw [if_neg (by omega)]
theorem unquote_bad {l : List UInt8} (h : unbody (inner l) = none) : unquote l = none := by unfold unquote; rw [h]
theorem unquote_ne {l x : List UInt8} (h : unbody (inner l) = some x) (hq : quote x ≠ l) : unquote l = none := by
  unfold unquote; rw [h]; exact if_neg (fun h => hq h.2)
theorem unquote_eq {l x : List UInt8} (h : unbody (inner l) = some x) (h2 : 2 ≤ l.length) (hq : quote x = l) : unquote l = some x := by
  unfold unquote; rw [h]; exact if_pos ⟨h2, hq⟩
/-- what of a text's inside lies from a place on. -/
def tl (s : ByteArray) (p : Nat) : List UInt8 := ((toL s).drop p).take (s.size - 1 - p)
theorem tl_len (s : ByteArray) (p : Nat) : (tl s p).length = s.size - 1 - p := by
  unfold tl; rw [List.length_take, List.length_drop, toL_size]; omega
theorem tl_one (s : ByteArray) : tl s 1 = inner (toL s) := by
  unfold tl inner; rw [toL_size, show s.size - 1 - 1 = s.size - 2 by omega]
theorem tl_drop (s : ByteArray) (p k : Nat) : (tl s p).drop k = tl s (p + k) := by
  unfold tl; rw [List.drop_take, List.drop_drop, show s.size - 1 - p - k = s.size - 1 - (p + k) by omega]
theorem tl_cut (s : ByteArray) (p : Nat) (h : p ≤ s.size - 1) : s.extract p (s.size - 1) = str (tl s p) := cut_eq s p _ h
theorem tl_cons (s : ByteArray) (p : Nat) (h : p < s.size - 1) (h2 : p < s.size) : tl s p = s[p]'h2 :: tl s (p + 1) := by
  have hl := tl_len s p
  have hd := tl_drop s p 1
  have ha := at_drop s p 0 (by omega)
  have hg : (tl s p).getD 0 0 = s[p]'h2 := by
    show _ = s[p + 0]'(by omega)
    rw [ha]
    unfold tl
    rw [List.getD_eq_getElem?_getD, List.getD_eq_getElem?_getD, List.getElem?_take, if_pos (by omega)]
  cases ht : tl s p with
  | nil => rw [ht] at hl; simp at hl; omega
  | cons a t =>
    rw [ht] at hd hg
    rw [← hd, ← hg]; rfl
theorem own_below {w w' : World} {base : Nat} {e : TypeId} {size n : Nat} {v : Value} {xs : List Value} (h : w.ownsRow base e size v n xs) (hb : Below w.heap.size w w') : w'.ownsRow base e size v n xs :=
  h.kept (row := none) ⟨hb.os, hb.tape, hb.output, hb.size, fun k hk _ => hb.block k hk⟩ (Classical.em _)
theorem byteCells_snoc1 (l : List UInt8) (x : UInt8) : Lib.byteCells (l ++ [x]) = Lib.byteCells l ++ [Value.int .u8 (x.toNat : Int)] := by rw [Lib.byteCells_append]; rfl
theorem ret_unq {a c : ByteArray} {b d : Int} (h1 : a = c) (h2 : b = d) : Ending.returned (Value.tuple #[.string a, .int .i64 b]) = Ending.returned (Value.tuple #[.string c, .int .i64 d]) := by rw [h1, h2]

set_option maxHeartbeats 4000000 in
set_option maxRecDepth 100000 in
theorem unquote_calls (s : ByteArray) (w : World) (hs : s.size ≤ 1000000) (hT : Lib.Utf8Tabs 0 1 w) :
    Calls Tryz.prog 98 #[.string s] w fun e w' => e = .returned (.tuple #[.string (str (uqT (toL s))), .int .i64 (uqE (toL s))]) ∧ Below w.heap.size w w' := by
  obtain ⟨i0, hi, hz0, hz1, hz2⟩ := info_parts bByte
  go_enter Tryz.func98, Tryz.ntmps98
  go_wp2
  go_loopw [4, 5] (fun o i wr => ∃ (A : Option Addr) (n c pos : Nat) (acc : List UInt8), o = .slice A n c ∧ i = .int .i64 (pos : Int) ∧ 1 ≤ pos ∧ acc.length = n ∧ n ≤ pos ∧ (pos ≤ s.size - 1 ∨ pos = 1) ∧ Hid (wr.ownsRow w.heap.size 5 1 (.slice A n c) n (Lib.byteCells acc)) ∧ Hid (unbody (inner (toL s)) = (unbody (tl s pos)).map (acc ++ ·)) ∧ Hid (Below w.heap.size w wr)) (fun _ i _ => s.size - (intOf i).toNat)
  case atStart =>
    refine ⟨none, 0, 0, 1, [], rfl, rfl, by omega, rfl, by omega, .inr rfl, World.ownsRow_nil _ _ _ _, ?_, Below.refl _ _⟩
    show _ = _
    rw [tl_one]; cases unbody (inner (toL s)) <;> rfl
  case round =>
    obtain ⟨A, n, c, pos, acc, rfl, rfl, h1, hn, hnp, hps, hown, hub, hbw⟩ := hrel
    have hwz : w.heap.size ≤ wr.heap.size := hbw.out.size
    by_cases hp : pos + 1 < s.size
    · obtain ⟨x, hat⟩ : ∃ x, ∀ h : pos < s.size, s[pos]'h = x := ⟨s[pos]'(by omega), fun _ => rfl⟩
      have htc := tl_cons s pos (by omega) (by omega)
      rw [hat] at htc
      have hlt := tl_len s (pos + 1)
      have hcut := tl_cut s (pos + 1) (by omega)
      have hun := unescape_calls (tl s (pos + 1)) wr (by omega)
      have htd := tl_drop s (pos + 1)
      have hxe : ((x.toNat : Int) == 92) = decide (x = 92) := u8_eq x 92 (by omega)
      have hcx : ((pos : Int) + 1) = ((pos + 1 : Nat) : Int) := by omega
      generalize htl : tl s (pos + 1) = t at *
      by_cases hx : x = 92
      · rcases hue : unesc1 t with _ | ⟨y, k⟩
        · have hq := uq_none (unquote_bad (by rw [hub.out, htc, hx, unbody_none _ hue]; rfl))
          have hun0 : Calls Tryz.prog 124 #[.string (str t)] wr fun e w' => e = .returned (.tuple #[.int .u8 0, .int .i64 0]) ∧ Below wr.heap.size wr w' := by
            rw [ue_none hue] at hun; exact hun
          rw [decide_eq_true hx] at hxe
          clear hun hub htd htc hcx
          go_wp2_with (fail)
          refine hun0.mono ?_
          rintro e w1 ⟨rfl, hb1⟩
          go_wp2_with (fail)
          go_ret2
          exact ⟨ret_unq (by rw [hq.1]; rfl) hq.2.symm, hbw.out.trans (hb1.mono hwz)⟩
        · have hk := unesc1_pos hue
          have hub2 : Hid (unbody (inner (toL s)) = (unbody (tl s (pos + k + 1))).map ((acc ++ [y]) ++ ·)) := by
            show _ = _
            rw [hub.out, htc, hx, unbody_esc _ _ _ hue, htd, show pos + 1 + k = pos + k + 1 by omega]
            cases unbody (tl s (pos + k + 1)) <;> simp
          have hun0 : Calls Tryz.prog 124 #[.string (str t)] wr fun e w' => e = .returned (.tuple #[.int .u8 (y.toNat : Int), .int .i64 (k : Int)]) ∧ Below wr.heap.size wr w' := by
            rw [ue_some hue] at hun; exact hun
          have k0 : ((k : Int) == 0) = false := by rw [beq_eq_false_iff_ne]; omega
          rw [decide_eq_true hx] at hxe
          clear hun hub htd htc hcx
          go_wp2_with (fail)
          refine hun0.mono ?_
          rintro e w1 ⟨rfl, hb1⟩
          have own1 := own_below hown.out hb1
          have hbw1 := hbw.out.trans (hb1.mono hwz)
          have hz := hb1.size
          go_wp2_with (at_builtin; refine wpList_append_own _ rfl _ _ 26 rfl w.heap.size 5 i0 (.int .u8 0) 1 1 Tryz.underlying26 hi hz0 hz1 hz2 rfl (by decide) _ _ _ rfl (own1.alloc _) ⟨w1.heap.size, 0, none⟩ 1 1 [.int .u8 (y.toNat : Int)] rfl rfl ?c1 ?c2 ?c3 ?c4 ?c5 ?_)
          case c1 =>
            intro j u hj
            match j, hj with
            | 0, hj => simp at hj; subst hj; simp [Addr.add]
          case c2 => intro u hu; simp at hu; subst hu; rfl
          case c3 => unfold maxLen; omega
          case c4 => omega
          case c5 => simp; omega
          intro v' w2 hown' hgrow _
          rw [← byteCells_snoc1] at hown'
          have hb2 : Below w.heap.size w w2 := ((hbw1).alloc (by omega) _).grown hgrow (by simp; omega) (fun k hk => (own1.lt k hk).1)
          obtain ⟨A', c', rfl⟩ : ∃ A' c', v' = .slice A' (n + 1) c' := by
            rcases hown'.2 with ⟨_, h0⟩ | ⟨g, cap, cur, hv, _⟩
            · omega
            · exact ⟨_, _, hv⟩
          have hown2 := Lib.hid hown'
          clear hown' hgrow
          go_wp2
          go_roundw
          case rel => exact ⟨A', n + 1, c', pos + k + 1, acc ++ [y], rfl, by go_num, by omega, by rw [List.length_append]; simp; omega, by omega, by omega, hown2, hub2, hb2⟩
          case measure => simp [intOf]; omega
      · have hub2 : Hid (unbody (inner (toL s)) = (unbody (tl s (pos + 0 + 1))).map ((acc ++ [x]) ++ ·)) := by
          show _ = _
          rw [hub.out, htc, unbody_plain _ _ hx, Nat.add_zero, htl]
          cases unbody t <;> simp
        rw [decide_eq_false hx] at hxe
        have own1 := hown.out
        have hbw1 := hbw.out
        clear hun hub htd htc hcx
        go_wp2_with (at_builtin; refine wpList_append_own _ rfl _ _ 26 rfl w.heap.size 5 i0 (.int .u8 0) 1 1 Tryz.underlying26 hi hz0 hz1 hz2 rfl (by decide) _ _ _ rfl (own1.alloc _) ⟨wr.heap.size, 0, none⟩ 1 1 [.int .u8 (x.toNat : Int)] rfl rfl ?c1 ?c2 ?c3 ?c4 ?c5 ?_)
        case c1 =>
          intro j u hj
          match j, hj with
          | 0, hj => simp at hj; subst hj; simp [Addr.add]
        case c2 => intro u hu; simp at hu; subst hu; rfl
        case c3 => unfold maxLen; omega
        case c4 => omega
        case c5 => simp; omega
        intro v' w2 hown' hgrow _
        rw [← byteCells_snoc1] at hown'
        have hb2 : Below w.heap.size w w2 := ((hbw1).alloc (by omega) _).grown hgrow (by simp; omega) (fun k hk => (own1.lt k hk).1)
        obtain ⟨A', c', rfl⟩ : ∃ A' c', v' = .slice A' (n + 1) c' := by
          rcases hown'.2 with ⟨_, h0⟩ | ⟨g, cap, cur, hv, _⟩
          · omega
          · exact ⟨_, _, hv⟩
        have hown2 := Lib.hid hown'
        clear hown' hgrow
        go_wp2
        go_roundw
        case rel => exact ⟨A', n + 1, c', pos + 0 + 1, acc ++ [x], rfl, by go_num, by omega, by rw [List.length_append]; simp; omega, by omega, by omega, hown2, hub2, hb2⟩
        case measure => simp [intOf]; omega
    · by_cases h2 : s.size < 2
      · have hq := Lib.hid (uq_none (unquote_short (l := toL s) (by rw [toL_size]; exact h2)))
        go_wp2
        go_ret2
        exact ⟨ret_unq (by rw [hq.out.1]; rfl) hq.out.2.symm, hbw.out⟩
      · have hall : unbody (inner (toL s)) = some acc := by
          rw [hub.out, show tl s pos = [] from List.eq_nil_of_length_eq_zero (by rw [tl_len]; omega), unbody_nil]
          simp
        have hcv := convert_own hown.out
        have hqc := quote_calls (str acc) wr (by rw [str_size]; omega) (Utf8Tabs_below hT hbw.out)
        rw [toL_str] at hqc
        by_cases hqe : quote acc = toL s
        · have hq := Lib.hid (uq_some (unquote_eq hall (by rw [toL_size]; omega) hqe))
          have hse : ((str (quote acc)).toList == s.toList) = true := by rw [beq_iff_eq, str_toList, hqe, ByteArray.toList_eq]; rfl
          clear hall hqe
          go_wp2_with (fail)
          refine hqc.mono ?_
          rintro e w1 ⟨rfl, hb1⟩
          have hcv1 := convert_own (own_below hown.out hb1)
          clear hcv
          go_wp2
          go_ret2
          exact ⟨ret_unq (by rw [hq.out.1]) hq.out.2.symm, hbw.out.trans (hb1.mono hwz)⟩
        · have hq := Lib.hid (uq_none (unquote_ne hall hqe))
          have hse : ((str (quote acc)).toList == s.toList) = false := by
            rw [beq_eq_false_iff_ne, str_toList, ByteArray.toList_eq]; exact hqe
          clear hall hqe
          go_wp2_with (fail)
          refine hqc.mono ?_
          rintro e w1 ⟨rfl, hb1⟩
          clear hcv
          go_wp2
          go_ret2
          exact ⟨ret_unq (by rw [hq.out.1]; rfl) hq.out.2.symm, hbw.out.trans (hb1.mono hwz)⟩
end Go.Proofs.YtdgbpmbknlhgmaaGreatDoor
