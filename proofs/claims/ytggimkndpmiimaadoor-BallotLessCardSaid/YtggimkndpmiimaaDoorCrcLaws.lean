/-
The walks through the three laws of package crc.
-/
import Derived.Test.YtggimkndpmiimaaDoorFmt16
import Derived.Lib.SlBytesConst
set_option linter.unusedVariables false
set_option linter.unusedSimpArgs false
namespace Go.Proofs.YtggimkndpmiimaaDoor
open Go.RowKit

/-- what the walks need of the package variables. -/
structure CrcVars (w : World) : Prop where
  tab : CrcTab w
  tz : w.cell? ⟨3, 15, none⟩ = some (.int .u8 4)
  size : 3 < w.heap.size
theorem CrcVars.below {w w' : World} (h : CrcVars w) (hb : Below w.heap.size w w') : CrcVars w' :=
  ⟨h.tab.below hb (by have := h.size; omega), (hb.cell (p := ⟨3, 15, none⟩) (by have := h.size; show 3 < _; omega)).trans h.tz, by have := h.size; have := hb.size; omega⟩

theorem text_any (n : Nat) (w : World) (hn : n < 4294967296) (hv : CrcVars w) :
    Calls Tryd.prog 12 #[.int .u32 (n : Int)] w fun e w' => e = .returned (.string ⟨(low 8 n).toArray⟩) ∧ Below w.heap.size w w' :=
  crctext_calls n w hn hv.tz (by have := hv.size; omega)

def nine : List UInt8 := [49, 50, 51, 52, 53, 54, 55, 56, 57]
theorem nine_sum : Crc.sum nine = 3421780262 := by decide +kernel

theorem text15 (w : World) (hv : CrcVars w) :
    Calls Tryd.prog 12 #[.int .u32 15] w fun e w' => e = .returned (.string ⟨#[48, 48, 48, 48, 48, 48, 48, 102]⟩) ∧ Below w.heap.size w w' := by
  have h := text_any 15 w (by omega) hv
  rw [show low 8 15 = [48, 48, 48, 48, 48, 48, 48, 102] by decide] at h
  exact h

theorem CrcVars.alloc {w : World} (h : CrcVars w) (o : Obj) : CrcVars (w.alloc o) := h.below ((Below.refl _ _).alloc (Nat.le_refl _) o)
theorem nine_at (w : World) : BytesAt (w.alloc (.cells #[.int .u8 49, .int .u8 50, .int .u8 51, .int .u8 52, .int .u8 53, .int .u8 54, .int .u8 55, .int .u8 56, .int .u8 57] 5 (9, 10))) (some ⟨w.heap.size, 0, none⟩) 9 nine := by
  refine ⟨rfl, fun _ => ⟨_, rfl, by simp, fun j u hj => ?_⟩⟩
  have ha : Addr.add ⟨w.heap.size, 0, none⟩ j = ⟨w.heap.size, j, none⟩ := by unfold Addr.add; split <;> simp_all
  rw [ha, World.cell?_alloc_mark, ← hj, show (List.map (fun b => Value.int .u8 ((b : UInt8).toNat : Int)) nine) = [.int .u8 49, .int .u8 50, .int .u8 51, .int .u8 52, .int .u8 53, .int .u8 54, .int .u8 55, .int .u8 56, .int .u8 57] from rfl, List.getElem?_toArray]

set_option maxHeartbeats 400000 in
theorem awake_calls (w : World) (hv : CrcVars w) :
    Calls Tryd.prog 9 #[] w fun e w' => e = .returned (.bool true) ∧ Below w.heap.size w w' := by
  have kc := fun (w : World) (C : Array Value) (n c : Nat) => Lib.run_convert_bytes_const (P := Tryd.prog) w 22 5 C n c Tryd.underlying22 Tryd.underlying5
  have hv' := Lib.hid hv
  clear hv
  go_enter Tryd.func9, Tryd.ntmps9
  go_wp2_with fail
  refine (crcsum_calls _ 9 9 nine _ (by omega) (hv'.out.alloc _).tab (nine_at w)).mono ?_
  rintro e w' ⟨rfl, rfl⟩
  rw [nine_sum]
  go_wp2_with fail
  refine (text15 _ (hv'.out.alloc _)).mono ?_
  rintro e w' ⟨rfl, hb⟩
  go_wp2_with fail
  go_ret
  exact ⟨rfl, ((Below.refl _ _).alloc (Nat.le_refl _) _).trans (hb.mono (by simp))⟩

set_option maxHeartbeats 400000 in
theorem sums_calls (A : Option Addr) (n cap : Nat) (l : List UInt8) (w : World) (hn : n ≤ 140737488351232) (hv : CrcVars w) (hl : BytesAt w A n l) :
    Calls Tryd.prog 3 #[.slice A n cap] w fun e w' => e = .returned (.bool true) ∧ Below w.heap.size w w' := by
  have hv' := Lib.hid hv
  have hl' := Lib.hid hl
  clear hv hl
  have hs := Crc.sum_lt l
  by_cases h : 2000 < n
  · go_enter Tryd.func3, Tryd.ntmps3
    go_wp2_with (go_at_call 9; refine (awake_calls _ hv'.out).mono ?_; rintro e w' ⟨rfl, hb⟩)
    go_ret
    exact ⟨rfl, hb⟩
  · have H1 := Lib.hid (crcsum_calls A n cap l w hn hv'.out.tab hl'.out)
    have H2 := Lib.hid (refsum_calls A n cap l w hn hl'.out)
    have H3 := Lib.hid (text_any (Crc.sum l) w hs hv'.out)
    have H4 := fun w1 => Lib.hid (reftext_calls (Crc.sum l) w1 hs)
    generalize Crc.sum l = s at H1 H2 H3 H4 hs
    generalize (low 8 s).toArray = tx at H3 H4
    go_enter Tryd.func3, Tryd.ntmps3
    go_wp2_with fail
    refine H1.out.mono ?_
    rintro e w' ⟨rfl, rfl⟩
    go_wp2_with fail
    refine H2.out.mono ?_
    rintro e w' ⟨rfl, rfl⟩
    go_wp2_with fail
    refine H3.out.mono ?_
    rintro e w' ⟨rfl, hb⟩
    go_wp2_with fail
    refine (H4 _).out.mono ?_
    rintro e w' ⟨rfl, rfl⟩
    go_wp2_with fail
    refine (awake_calls _ (hv'.out.below hb)).mono ?_
    rintro e w' ⟨rfl, hb2⟩
    go_wp2_with fail
    go_ret
    exact ⟨rfl, hb.trans (hb2.mono hb.size)⟩

theorem own_form {w : World} {base : Nat} {e : TypeId} {size n : Nat} {v : Value} {xs : List Value} (h : w.ownsRow base e size v n xs) :
    ∃ A c, v = .slice A n c ∧ Reads w w.heap.size size A n xs := by
  rcases h.2 with ⟨rfl, rfl⟩ | ⟨g, cap, cur, rfl, _⟩
  · exact ⟨none, 0, rfl, ⟨h.1, fun hn => absurd hn (by omega)⟩⟩
  · exact ⟨_, _, rfl, Reads.of_own h⟩
theorem own_new (w : World) (e : TypeId) : (w.alloc (.cells #[] e)).ownsRow w.heap.size e 1 (.slice (some ⟨w.heap.size, 0, none⟩) 0 0) 0 [] :=
  ⟨rfl, .inr ⟨w.heap.size, 0, #[], rfl, Nat.le_refl _, heap_alloc_new w _, Nat.le_refl _, by decide, rfl, rfl⟩⟩
theorem bytes_one (l : List UInt8) : ∀ u ∈ l.map (fun b => Value.int .u8 (b.toNat : Int)), u.oneCell' = true := by
  intro u hu
  obtain ⟨b, _, rfl⟩ := List.mem_map.1 hu
  rfl
theorem u8_info : (Tryd.prog.info? 5).map (fun i => (i.zero, i.size, i.bytes)) = some (some (.int .u8 0), 1, 1) := by kernel_rfl

set_option maxHeartbeats 800000 in
theorem goeson_calls (A B : Option Addr) (n m cap dap : Nat) (a b : List UInt8) (w : World) (hn : n ≤ 140737488351232) (hm : m ≤ 140737488351232) (hv : CrcVars w) (ha : BytesAt w A n a) (hb : BytesAt w B m b) :
    Calls Tryd.prog 4 #[.slice A n cap, .slice B m dap] w fun e w' => e = .returned (.bool true) ∧ Below w.heap.size w w' := by
  have hv' := Lib.hid hv
  have ha' := Lib.hid ha
  have hb' := Lib.hid hb
  clear hv ha hb
  by_cases h1 : 2000 < n
  · go_enter Tryd.func4, Tryd.ntmps4
    go_wp2_with (go_at_call 9; refine (awake_calls _ hv'.out).mono ?_; rintro e w' ⟨rfl, hb⟩)
    go_ret
    exact ⟨rfl, hb⟩
  by_cases h2 : 2000 < m
  · go_enter Tryd.func4, Tryd.ntmps4
    go_wp2_with (go_at_call 9; refine (awake_calls _ hv'.out).mono ?_; rintro e w' ⟨rfl, hb⟩)
    go_ret
    exact ⟨rfl, hb⟩
  have hs := Crc.sum_lt a
  have H1 := Lib.hid (crcsum_calls A n cap a w hn hv'.out.tab ha'.out)
  have H2 := add_calls (Crc.sum a) B m dap b w hs hm hv'.out.tab hb'.out
  rw [Crc.sum_goes_on] at H2
  have H2 := Lib.hid H2
  have H3 : ∀ w1, CrcTab w1 → Calls Tryd.prog 14 #[.int .u32 0, .slice none 0 0] w1 fun e w' => e = .returned (.int .u32 0) ∧ w1 = w' := fun w1 h => add_calls 0 none 0 0 [] w1 (by omega) (by omega) h Reads.none_
  have H3 := Lib.hid H3
  have H4 : ∀ A cap w1, BytesAt w1 A (n + m) (a ++ b) → Calls Tryd.prog 11 #[.slice A (n + m) cap] w1 fun e w' => e = .returned (.int .u32 ((Crc.sum (a ++ b) : Nat) : Int)) ∧ w1 = w' := fun A cap w1 h => refsum_calls A (n + m) cap (a ++ b) w1 (by omega) h
  have H4 := Lib.hid H4
  generalize Crc.sum a = sa at H1 H2
  generalize Crc.sum (a ++ b) = sab at H2 H4
  obtain ⟨i0, hi0, hz0, hz1, hz2⟩ := info_parts u8_info
  go_enter Tryd.func4, Tryd.ntmps4
  go_wp2_with fail
  refine H1.out.mono ?_
  rintro e w' ⟨rfl, rfl⟩
  go_wp2_with fail
  refine H2.out.mono ?_
  rintro e w' ⟨rfl, rfl⟩
  go_wp2_with (first
    | (at_builtin
       refine wpList_append_any _ rfl (.tmp 18) (.tmp 19) _ rfl w.heap.size 5 i0 _ 1 1 Tryd.underlying22 hi0 hz0 hz1 hz2 rfl (by omega) (.slice (some ⟨w.heap.size, 0, none⟩) 0 0) 0 [] rfl
         (own_new w _) w.heap.size A n cap _ rfl (Reads.alloc ha'.out (Nat.le_refl _) _) (bytes_one a) (by simp only [maxLen]; omega) (by omega) (by simp) ?_
       intro v1 w1 hown1 hg1 hat1
       have hbw1 : Below w.heap.size w w1 := ((Below.refl _ _).alloc (Nat.le_refl _) _).grown hg1 (by simp) (by simp [Value.ownBlock]))
    | (at_builtin
       refine wpList_append_any _ rfl (.tmp 20) (.tmp 21) _ rfl w.heap.size 5 i0 _ 1 1 Tryd.underlying22 hi0 hz0 hz1 hz2 rfl (by omega) v1 (0 + n) _ rfl
         hown1 w.heap.size B m dap _ rfl (Reads.below hb'.out hbw1) (bytes_one b) (by simp only [maxLen]; omega) (by omega) hbw1.size ?_
       intro v2 w2 hown2 hg2 hat2
       have hbw2 : Below w.heap.size w w2 := hbw1.grown hg2 hbw1.size (fun k hk => (hown1.lt k hk).1)))
  rw [Nat.zero_add, List.nil_append, ← List.map_append] at hown2
  obtain ⟨C, c, hv2, hr2⟩ := own_form hown2
  rw [hv2]
  refine (H4.out C c w2 hr2).mono ?_
  rintro e w' ⟨rfl, rfl⟩
  go_wp2_with fail
  refine (H3.out w2 (hv'.out.below hbw2).tab).mono ?_
  rintro e w' ⟨rfl, rfl⟩
  go_wp2_with fail
  refine (awake_calls _ (hv'.out.below hbw2)).mono ?_
  rintro e w' ⟨rfl, hb3⟩
  go_wp2_with fail
  go_ret
  exact ⟨rfl, hbw2.trans (hb3.mono hbw2.size)⟩
end Go.Proofs.YtggimkndpmiimaaDoor
