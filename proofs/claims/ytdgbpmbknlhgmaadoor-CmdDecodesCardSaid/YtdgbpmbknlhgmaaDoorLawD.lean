/-
The walk through the law CmdDecodes.
-/
import Derived.Test.YtdgbpmbknlhgmaaDoorCmdK
import Derived.Test.YtdgbpmbknlhgmaaDoorLawC
import Derived.Laws.StructEq
set_option linter.unusedVariables false
set_option linter.unusedSimpArgs false
namespace Go.Proofs.YtdgbpmbknlhgmaaDoor
open Go.RowKit Qt Vm

theorem hasE_ok {v : Int} {x : CX} (h : hasE v x = 0) : cmdE x = 0 ∧ vhasB v x.kind = true := by
  unfold hasE at h
  by_cases h2 : cmdE x = 0
  · rw [if_pos h2] at h
    by_cases h3 : vhasB v x.kind = true
    · exact ⟨h2, h3⟩
    · rw [if_neg h3] at h; exact absurd h (by decide)
  · rw [if_neg h2] at h; exact absurd h h2
set_option maxHeartbeats 4000000 in
set_option maxRecDepth 100000 in
theorem lawCDec_calls (v : Int) (A : Option Addr) (n c : Nat) (l : List UInt8) (w : World) (hv : AVars w) (hn : n ≤ 140737488351232) (h : BAt w A n l) :
    Calls Tryd.prog 10 #[.int .i64 v, .slice A n c] w fun e w' => e = .returned (.bool true) ∧ Below w.heap.size w w' := by
  have hv' := Lib.hid hv
  have h' := Lib.hid h
  have hln := h.len
  clear hv h
  by_cases h5 : 500 < n
  · go_enter Tryd.func10, Tryd.ntmps10
    go_wp2_with (fail)
    refine (awakeC_calls _ hv'.out).mono ?_
    rintro e w1 ⟨rfl, hb1⟩
    go_wp2
    go_ret
    exact ⟨rfl, hb1⟩
  by_cases hvv : v = 1 ∨ v = 2
  · have H := Lib.hid (cmddec_calls v A n c l w hvv (by omega) h'.out hv'.out.q)
    have g1 : decide (v < 1) = false := decide_eq_false (by omega)
    have g2 : decide (2 < v) = false := decide_eq_false (by omega)
    have hvv' := Lib.hid hvv
    have hgb := Lib.hid (fun h => getC_bytes (v := v) (l := l) h)
    clear hvv
    go_enter Tryd.func10, Tryd.ntmps10
    go_wp2_with (fail)
    refine H.out.mono ?_
    rintro e w1 ⟨hcase, hb1⟩
    have hb1' := Lib.hid hb1
    unfold DecC at hcase
    generalize getC v l = L at *
    obtain ⟨⟨f0, f1, f2, f3, f4, f5, f6⟩, st⟩ := L
    rcases hcase with ⟨hst, hE, rfl⟩ | ⟨hno, x, hx, _, rfl⟩
    · obtain ⟨hE0, hH⟩ := hasE_ok hE
      have hok := cmd_ok hE0
      have hn0 := hok.nat
      have ht := hok.tiny
      have hbs := hgb.out hst
      have hb2 : Hid (Below w.heap.size w (w1.alloc (.cells #[.int .i64 f0, .int .i64 f1, .int .i64 f2, .string (str f3), .string (str f4), .string (str f5), .int .i64 f6] 46))) := hb1.alloc hb1.size _
      have HC := refcheck_calls ⟨f0, f1, f2, f3, f4, f5, f6⟩ (w1.alloc (.cells #[.int .i64 f0, .int .i64 f1, .int .i64 f2, .string (str f3), .string (str f4), .string (str f5), .int .i64 f6] 46)) ht.short
      rw [hE0] at HC
      have HF := fun w2 => refhas_calls v f0 w2
      have hH : vhasB v f0 = true := hH
      rw [hH] at HF
      have HB := fun w2 => refcmdbytes_calls v ⟨f0, f1, f2, f3, f4, f5, f6⟩ w2 hvv'.out hok.kind hn0 ht
      rw [hbs] at HB
      have HC := Lib.hid HC
      have HF := Lib.hid HF
      have HB := Lib.hid HB
      have hB := Lib.hid (Blk.new w1 46 #[.int .i64 f0, .int .i64 f1, .int .i64 f2, .string (str f3), .string (str f4), .string (str f5), .int .i64 f6])
      clear hE hE0 hH hok hn0 ht hb1 H hbs hb1' hst hgb
      go_wp2_with (fail)
      refine HC.out.mono ?_
      rintro e w2 ⟨rfl, hb⟩
      have hB2 := hB.out.call hb
      obtain ⟨kc, kf, hlt⟩ := hB2.facts
      have hb3 : Hid (Below w.heap.size w w2) := hb2.out.trans (hb.mono hb2.out.size)
      clear hb hB2 HC
      go_wp2_with (fail)
      refine (HF.out _).mono ?_
      rintro e w3 ⟨rfl, rfl⟩
      go_wp2_with (fail)
      refine (HB.out _).mono ?_
      rintro e w3 ⟨B, k, d, rfl, ho, hb⟩
      have hb4 : Hid (Below w.heap.size w w3) := hb3.out.trans (hb.mono hb3.out.size)
      have hk := (BAt.own ho).len
      have HS := same_calls B k d l A n c l w3 (by omega) (by omega) (BAt.own ho) (h'.out.below hb4.out)
      rw [decide_eq_true rfl] at HS
      have HS := Lib.hid HS
      clear ho hb hk kc kf hlt HB
      go_wp2_with (fail)
      refine HS.out.mono ?_
      rintro e w4 ⟨rfl, hb⟩
      have hb5 : Hid (Below w.heap.size w w4) := hb4.out.trans (hb.mono hb4.out.size)
      clear hb HS
      go_wp2_with (fail)
      refine (awakeC_calls _ (hv'.out.below hb5.out)).mono ?_
      rintro e w5 ⟨rfl, hb⟩
      go_wp2_with (fail)
      go_ret
      exact ⟨rfl, hb5.out.trans (hb.mono hb5.out.size)⟩
    · have hx0 : (x == 0) = false := beq_eq_false_iff_ne.2 hx
      have hb2 : Hid (Below w.heap.size w (w1.alloc (.cells #[.int .i64 0, .int .i64 0, .int .i64 0, .string ⟨#[]⟩, .string ⟨#[]⟩, .string ⟨#[]⟩, .int .i64 0] 46))) := hb1.alloc hb1.size _
      clear hno hx hb1 H hgb
      go_wp2_with (fail)
      refine (awakeC_calls _ (hv'.out.below hb2.out)).mono ?_
      rintro e w5 ⟨rfl, hb⟩
      have hb' := Lib.hid (hb2.out.trans (hb.mono hb2.out.size))
      clear hb
      go_wp2_with (fail)
      go_ret
      exact ⟨rfl, hb'.out⟩
  · have H := Lib.hid (cmddec_v v A n c w hvv)
    have hcase : v < 1 ∨ (1 ≤ v ∧ 2 < v) := by omega
    clear hvv
    rcases hcase with hc | ⟨hc1, hc⟩
    all_goals
      go_enter Tryd.func10, Tryd.ntmps10
      go_wp2_with (fail)
      refine H.out.mono ?_
      rintro e w1 ⟨rfl, hb1⟩
      have hb2 : Hid (Below w.heap.size w (w1.alloc (.cells #[.int .i64 0, .int .i64 0, .int .i64 0, .string ⟨#[]⟩, .string ⟨#[]⟩, .string ⟨#[]⟩, .int .i64 0] 46))) := hb1.alloc hb1.size _
      clear hb1 H
      go_wp2_with (fail)
      refine (awakeC_calls _ (hv'.out.below hb2.out)).mono ?_
      rintro e w5 ⟨rfl, hb⟩
      have hb' := Lib.hid (hb2.out.trans (hb.mono hb2.out.size))
      clear hb
      go_wp2_with (fail)
      go_ret
      exact ⟨rfl, hb'.out⟩
end Go.Proofs.YtdgbpmbknlhgmaaDoor
