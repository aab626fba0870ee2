/-
The walks through the reference's Bytes of a command. (Printed by gen_cmdk.py.)
-/
import Derived.Test.YtdgbpmbknlhgmaaGreatDoorCmdN
import Derived.Test.YtdgbpmbknlhgmaaGreatDoorCmdC
set_option linter.unusedVariables false
set_option linter.unusedSimpArgs false
namespace Go.Proofs.YtdgbpmbknlhgmaaGreatDoor
open Go.RowKit Qt Vm

set_option maxHeartbeats 4000000 in
set_option maxRecDepth 100000 in
theorem refbytes_one (x : CX) (w : World) (hn : x.nat) (ht : x.tiny) :
    Calls Tryz.prog 15 #[.int .i64 1, x.value] w fun e w' => ∃ B k d, e = .returned (.slice B k d) ∧ w'.ownsRow w.heap.size 5 1 (.slice B k d) k (Lib.byteCells (((((vb x.kind.toNat ++ vb x.client.toNat) ++ vb x.seq.toNat) ++ (Fv.txt x.key).bytes) ++ (Fv.txt x.val).bytes) ++ vb x.node.toNat)) ∧ Below w.heap.size w w' := by
  obtain ⟨i0, hi, hz0, hz1, hz2⟩ := info_parts bByte
  obtain ⟨t1, t2, t3⟩ := ht
  obtain ⟨⟨n0, n0'⟩, ⟨n1, n1'⟩, ⟨n2, n2'⟩, ⟨n3, n3'⟩⟩ := hn
  have q_kind : ((x.kind.toNat : Nat) : Int) = x.kind := Int.toNat_of_nonneg n0
  have l_kind := vb_len9 (n := x.kind.toNat) (by omega)
  have H_kind := fun w1 => refBytes_calls x.kind.toNat w1 (by omega)
  rw [q_kind] at H_kind
  have H_kind := Lib.hid H_kind
  have q_client : ((x.client.toNat : Nat) : Int) = x.client := Int.toNat_of_nonneg n1
  have l_client := vb_len9 (n := x.client.toNat) (by omega)
  have H_client := fun w1 => refBytes_calls x.client.toNat w1 (by omega)
  rw [q_client] at H_client
  have H_client := Lib.hid H_client
  have q_seq : ((x.seq.toNat : Nat) : Int) = x.seq := Int.toNat_of_nonneg n2
  have l_seq := vb_len9 (n := x.seq.toNat) (by omega)
  have H_seq := fun w1 => refBytes_calls x.seq.toNat w1 (by omega)
  rw [q_seq] at H_seq
  have H_seq := Lib.hid H_seq
  have l_key : (Fv.txt x.key).bytes.length ≤ 90009 := by
    have a := vb_len9 (n := x.key.length) (by omega)
    have b : (Fv.txt x.key).bytes.length = (vb x.key.length).length + x.key.length := by simp [Fv.bytes]
    omega
  have H_key := fun w1 => refText_calls (str x.key) w1 (by rw [str_size]; omega)
  rw [toL_str] at H_key
  have H_key := Lib.hid H_key
  have l_val : (Fv.txt x.val).bytes.length ≤ 90009 := by
    have a := vb_len9 (n := x.val.length) (by omega)
    have b : (Fv.txt x.val).bytes.length = (vb x.val.length).length + x.val.length := by simp [Fv.bytes]
    omega
  have H_val := fun w1 => refText_calls (str x.val) w1 (by rw [str_size]; omega)
  rw [toL_str] at H_val
  have H_val := Lib.hid H_val
  have q_node : ((x.node.toNat : Nat) : Int) = x.node := Int.toNat_of_nonneg n3
  have l_node := vb_len9 (n := x.node.toNat) (by omega)
  have H_node := fun w1 => refBytes_calls x.node.toNat w1 (by omega)
  rw [q_node] at H_node
  have H_node := Lib.hid H_node
  have hcat : Hid ((((((vb x.kind.toNat ++ vb x.client.toNat) ++ vb x.seq.toNat) ++ (Fv.txt x.key).bytes) ++ (Fv.txt x.val).bytes) ++ vb x.node.toNat) = (((((vb x.kind.toNat ++ vb x.client.toNat) ++ vb x.seq.toNat) ++ (Fv.txt x.key).bytes) ++ (Fv.txt x.val).bytes) ++ vb x.node.toNat)) := rfl
  obtain ⟨W, hW⟩ : ∃ W, W = w.alloc (.cells x.cells 23) := ⟨_, rfl⟩
  have hB : Hid (Blk W w.heap.size 23 x.cells) := by subst hW; exact Blk.new _ _ _
  have hbW : Hid (Below w.heap.size w W) := by subst hW; exact (Below.refl _ _).alloc (Nat.le_refl _) _
  generalize hg0 : vb x.kind.toNat = s0 at *
  generalize hg1 : vb x.client.toNat = s1 at *
  generalize hg2 : vb x.seq.toNat = s2 at *
  generalize hg3 : (Fv.txt x.key).bytes = s3 at *
  generalize hg4 : (Fv.txt x.val).bytes = s4 at *
  generalize hg5 : vb x.node.toNat = s5 at *
  clear n0 n0' n1 n1' n2 n2' n3 n3' t1 t2 t3
  go_enter Tryz.func15, Tryz.ntmps15
  go_wp2_with (fail)
  rw [← hW]
  refine (H_kind.out _).mono ?_
  rintro e w1 ⟨A1, n1, c1, rfl, ho, hb⟩
  have S1 : Hid (Sofar W w1 A1 n1 c1 s0) := ⟨ho, hb⟩
  have hn1 : n1 ≤ 9 := by have := S1.out.len; omega
  have hBx := hB.out.call hb
  obtain ⟨kc, kf, hlt⟩ := hBx.facts
  clear ho hb hW
  go_wp2_with (fail)
  refine (H_client.out _).mono ?_
  rintro e w2 ⟨B, k, d, rfl, ho, hb⟩
  have hk : k ≤ 9 := by have := (BAt.own ho).len; omega
  have S0 := S1.out.call hb
  have hz := S0.2.size
  clear kc kf hlt hb S1
  go_wp2_with (at_builtin; refine wpList_append_any _ rfl _ _ 26 rfl W.heap.size 5 i0 _ 1 1 Tryz.underlying26 hi hz0 hz1 hz2 rfl (by omega) (.slice A1 n1 c1) n1 _ rfl S0.1 w2.heap.size B k d _ rfl (BAt.own ho) (bytes_one _) (by simp only [maxLen]; omega) (by omega) hz ?_)
  intro v' x2 ho3 hg3 _
  obtain ⟨A2, c2, rfl, Sx⟩ := S0.append ho3 hg3
  have hBx := hB.out.call Sx.2
  obtain ⟨kc, kf, hlt⟩ := hBx.facts
  obtain ⟨L2, E2, S2⟩ : ∃ L, Hid (L = s0 ++ s1) ∧ Hid (Sofar W x2 A2 (n1 + k) c2 L) := ⟨_, rfl, Sx⟩
  have hn2 : n1 + k ≤ 18 := by omega
  clear S0 Sx ho ho3 hg3 hz hk hn1 hBx
  generalize n1 + k = n2 at *
  go_wp2_with (fail)
  refine (H_seq.out _).mono ?_
  rintro e w3 ⟨B, k, d, rfl, ho, hb⟩
  have hk : k ≤ 9 := by have := (BAt.own ho).len; omega
  have S0 := S2.out.call hb
  have hz := S0.2.size
  clear kc kf hlt hb S2
  go_wp2_with (at_builtin; refine wpList_append_any _ rfl _ _ 26 rfl W.heap.size 5 i0 _ 1 1 Tryz.underlying26 hi hz0 hz1 hz2 rfl (by omega) (.slice A2 n2 c2) n2 _ rfl S0.1 w3.heap.size B k d _ rfl (BAt.own ho) (bytes_one _) (by simp only [maxLen]; omega) (by omega) hz ?_)
  intro v' x3 ho3 hg3 _
  obtain ⟨A3, c3, rfl, Sx⟩ := S0.append ho3 hg3
  have hBx := hB.out.call Sx.2
  obtain ⟨kc, kf, hlt⟩ := hBx.facts
  obtain ⟨L3, E3, S3⟩ : ∃ L, Hid (L = L2 ++ s2) ∧ Hid (Sofar W x3 A3 (n2 + k) c3 L) := ⟨_, rfl, Sx⟩
  have hn3 : n2 + k ≤ 27 := by omega
  clear S0 Sx ho ho3 hg3 hz hk hn2 hBx
  generalize n2 + k = n3 at *
  go_wp2_with (fail)
  refine (H_key.out _).mono ?_
  rintro e w4 ⟨B, k, d, rfl, ho, hb⟩
  have hk : k ≤ 90009 := by have := (BAt.own ho).len; omega
  have S0 := S3.out.call hb
  have hz := S0.2.size
  clear kc kf hlt hb S3
  go_wp2_with (at_builtin; refine wpList_append_any _ rfl _ _ 26 rfl W.heap.size 5 i0 _ 1 1 Tryz.underlying26 hi hz0 hz1 hz2 rfl (by omega) (.slice A3 n3 c3) n3 _ rfl S0.1 w4.heap.size B k d _ rfl (BAt.own ho) (bytes_one _) (by simp only [maxLen]; omega) (by omega) hz ?_)
  intro v' x4 ho3 hg3 _
  obtain ⟨A4, c4, rfl, Sx⟩ := S0.append ho3 hg3
  have hBx := hB.out.call Sx.2
  obtain ⟨kc, kf, hlt⟩ := hBx.facts
  obtain ⟨L4, E4, S4⟩ : ∃ L, Hid (L = L3 ++ s3) ∧ Hid (Sofar W x4 A4 (n3 + k) c4 L) := ⟨_, rfl, Sx⟩
  have hn4 : n3 + k ≤ 90036 := by omega
  clear S0 Sx ho ho3 hg3 hz hk hn3 hBx
  generalize n3 + k = n4 at *
  go_wp2_with (fail)
  refine (H_val.out _).mono ?_
  rintro e w5 ⟨B, k, d, rfl, ho, hb⟩
  have hk : k ≤ 90009 := by have := (BAt.own ho).len; omega
  have S0 := S4.out.call hb
  have hz := S0.2.size
  clear kc kf hlt hb S4
  go_wp2_with (at_builtin; refine wpList_append_any _ rfl _ _ 26 rfl W.heap.size 5 i0 _ 1 1 Tryz.underlying26 hi hz0 hz1 hz2 rfl (by omega) (.slice A4 n4 c4) n4 _ rfl S0.1 w5.heap.size B k d _ rfl (BAt.own ho) (bytes_one _) (by simp only [maxLen]; omega) (by omega) hz ?_)
  intro v' x5 ho3 hg3 _
  obtain ⟨A5, c5, rfl, Sx⟩ := S0.append ho3 hg3
  have hBx := hB.out.call Sx.2
  obtain ⟨kc, kf, hlt⟩ := hBx.facts
  obtain ⟨L5, E5, S5⟩ : ∃ L, Hid (L = L4 ++ s4) ∧ Hid (Sofar W x5 A5 (n4 + k) c5 L) := ⟨_, rfl, Sx⟩
  have hn5 : n4 + k ≤ 180045 := by omega
  clear S0 Sx ho ho3 hg3 hz hk hn4 hBx
  generalize n4 + k = n5 at *
  go_wp2_with (fail)
  refine (H_node.out _).mono ?_
  rintro e w6 ⟨B, k, d, rfl, ho, hb⟩
  have hk : k ≤ 9 := by have := (BAt.own ho).len; omega
  have S0 := S5.out.call hb
  have hz := S0.2.size
  clear kc kf hlt hb S5
  go_wp2_with (at_builtin; refine wpList_append_any _ rfl _ _ 26 rfl W.heap.size 5 i0 _ 1 1 Tryz.underlying26 hi hz0 hz1 hz2 rfl (by omega) (.slice A5 n5 c5) n5 _ rfl S0.1 w6.heap.size B k d _ rfl (BAt.own ho) (bytes_one _) (by simp only [maxLen]; omega) (by omega) hz ?_)
  intro v' x6 ho3 hg3 _
  obtain ⟨A6, c6, rfl, Sx⟩ := S0.append ho3 hg3
  have hBx := hB.out.call Sx.2
  obtain ⟨kc, kf, hlt⟩ := hBx.facts
  obtain ⟨L6, E6, S6⟩ : ∃ L, Hid (L = L5 ++ s5) ∧ Hid (Sofar W x6 A6 (n5 + k) c6 L) := ⟨_, rfl, Sx⟩
  have hn6 : n5 + k ≤ 180054 := by omega
  clear S0 Sx ho ho3 hg3 hz hk hn5 hBx
  generalize n5 + k = n6 at *
  go_wp2_with (fail)
  go_ret
  refine ⟨A6, n6, c6, rfl, ?_, (S6.out.done hbW.out).2⟩
  have hf := (S6.out.done hbW.out).1
  rw [E6.out, E5.out, E4.out, E3.out, E2.out] at hf
  exact hf
set_option maxHeartbeats 4000000 in
set_option maxRecDepth 100000 in
theorem refbytes_none (x : CX) (w : World) (ho : ownB x.kind = false) (e5 : (x.kind == 5) = false) (e2 : (x.kind == 2) = false) (hm : memB x.kind = false) (hn : x.nat) (ht : x.tiny) :
    Calls Tryz.prog 15 #[.int .i64 2, x.value] w fun e w' => ∃ B k d, e = .returned (.slice B k d) ∧ w'.ownsRow w.heap.size 5 1 (.slice B k d) k (Lib.byteCells (vb x.kind.toNat)) ∧ Below w.heap.size w w' := by
  obtain ⟨i0, hi, hz0, hz1, hz2⟩ := info_parts bByte
  obtain ⟨t1, t2, t3⟩ := ht
  obtain ⟨⟨n0, n0'⟩, ⟨n1, n1'⟩, ⟨n2, n2'⟩, ⟨n3, n3'⟩⟩ := hn
  have q_kind : ((x.kind.toNat : Nat) : Int) = x.kind := Int.toNat_of_nonneg n0
  have l_kind := vb_len9 (n := x.kind.toNat) (by omega)
  have H_kind := fun w1 => refBytes_calls x.kind.toNat w1 (by omega)
  rw [q_kind] at H_kind
  have H_kind := Lib.hid H_kind
  have HO : ∀ w, Calls Tryz.prog 39 #[.int .i64 x.kind] w fun e w' => e = .returned (.bool false) ∧ w = w' := fun w => ho ▸ refOwned_calls x.kind w
  have HM : ∀ w, Calls Tryz.prog 41 #[.int .i64 x.kind] w fun e w' => e = .returned (.bool false) ∧ w = w' := fun w => hm ▸ refmember_calls x.kind w
  have HO := Lib.hid HO
  have HM := Lib.hid HM
  clear ho hm
  have hcat : Hid (vb x.kind.toNat = vb x.kind.toNat) := rfl
  obtain ⟨W, hW⟩ : ∃ W, W = w.alloc (.cells x.cells 23) := ⟨_, rfl⟩
  have hB : Hid (Blk W w.heap.size 23 x.cells) := by subst hW; exact Blk.new _ _ _
  have hbW : Hid (Below w.heap.size w W) := by subst hW; exact (Below.refl _ _).alloc (Nat.le_refl _) _
  generalize hg0 : vb x.kind.toNat = s0 at *
  clear n0 n0' n1 n1' n2 n2' n3 n3' t1 t2 t3
  go_enter Tryz.func15, Tryz.ntmps15
  go_wp2_with (fail)
  rw [← hW]
  refine (H_kind.out _).mono ?_
  rintro e w1 ⟨A1, n1, c1, rfl, ho, hb⟩
  have S1 : Hid (Sofar W w1 A1 n1 c1 s0) := ⟨ho, hb⟩
  have hn1 : n1 ≤ 9 := by have := S1.out.len; omega
  have hBx := hB.out.call hb
  obtain ⟨kc, kf, hlt⟩ := hBx.facts
  clear ho hb hW
  go_wp2_with (fail)
  refine (HO.out _).mono ?_
  rintro e y ⟨rfl, rfl⟩
  go_wp2_with (fail)
  refine (HM.out _).mono ?_
  rintro e y ⟨rfl, rfl⟩
  go_wp2_with (fail)
  go_ret
  refine ⟨A1, n1, c1, rfl, ?_, (S1.out.done hbW.out).2⟩
  have hf := (S1.out.done hbW.out).1
  skip
  exact hf
set_option maxHeartbeats 4000000 in
set_option maxRecDepth 100000 in
theorem refbytes_put (x : CX) (w : World) (ho : ownB x.kind = true) (e5 : (x.kind == 5) = false) (e2 : (x.kind == 2) = true) (hm : memB x.kind = false) (hn : x.nat) (ht : x.tiny) :
    Calls Tryz.prog 15 #[.int .i64 2, x.value] w fun e w' => ∃ B k d, e = .returned (.slice B k d) ∧ w'.ownsRow w.heap.size 5 1 (.slice B k d) k (Lib.byteCells ((((vb x.kind.toNat ++ vb x.client.toNat) ++ vb x.seq.toNat) ++ (Fv.txt x.key).bytes) ++ (Fv.txt x.val).bytes)) ∧ Below w.heap.size w w' := by
  obtain ⟨i0, hi, hz0, hz1, hz2⟩ := info_parts bByte
  obtain ⟨t1, t2, t3⟩ := ht
  obtain ⟨⟨n0, n0'⟩, ⟨n1, n1'⟩, ⟨n2, n2'⟩, ⟨n3, n3'⟩⟩ := hn
  have q_kind : ((x.kind.toNat : Nat) : Int) = x.kind := Int.toNat_of_nonneg n0
  have l_kind := vb_len9 (n := x.kind.toNat) (by omega)
  have H_kind := fun w1 => refBytes_calls x.kind.toNat w1 (by omega)
  rw [q_kind] at H_kind
  have H_kind := Lib.hid H_kind
  have q_client : ((x.client.toNat : Nat) : Int) = x.client := Int.toNat_of_nonneg n1
  have l_client := vb_len9 (n := x.client.toNat) (by omega)
  have H_client := fun w1 => refBytes_calls x.client.toNat w1 (by omega)
  rw [q_client] at H_client
  have H_client := Lib.hid H_client
  have q_seq : ((x.seq.toNat : Nat) : Int) = x.seq := Int.toNat_of_nonneg n2
  have l_seq := vb_len9 (n := x.seq.toNat) (by omega)
  have H_seq := fun w1 => refBytes_calls x.seq.toNat w1 (by omega)
  rw [q_seq] at H_seq
  have H_seq := Lib.hid H_seq
  have l_key : (Fv.txt x.key).bytes.length ≤ 90009 := by
    have a := vb_len9 (n := x.key.length) (by omega)
    have b : (Fv.txt x.key).bytes.length = (vb x.key.length).length + x.key.length := by simp [Fv.bytes]
    omega
  have H_key := fun w1 => refText_calls (str x.key) w1 (by rw [str_size]; omega)
  rw [toL_str] at H_key
  have H_key := Lib.hid H_key
  have l_val : (Fv.txt x.val).bytes.length ≤ 90009 := by
    have a := vb_len9 (n := x.val.length) (by omega)
    have b : (Fv.txt x.val).bytes.length = (vb x.val.length).length + x.val.length := by simp [Fv.bytes]
    omega
  have H_val := fun w1 => refText_calls (str x.val) w1 (by rw [str_size]; omega)
  rw [toL_str] at H_val
  have H_val := Lib.hid H_val
  have HO : ∀ w, Calls Tryz.prog 39 #[.int .i64 x.kind] w fun e w' => e = .returned (.bool true) ∧ w = w' := fun w => ho ▸ refOwned_calls x.kind w
  have HM : ∀ w, Calls Tryz.prog 41 #[.int .i64 x.kind] w fun e w' => e = .returned (.bool false) ∧ w = w' := fun w => hm ▸ refmember_calls x.kind w
  have HO := Lib.hid HO
  have HM := Lib.hid HM
  clear ho hm
  have hcat : Hid (((((vb x.kind.toNat ++ vb x.client.toNat) ++ vb x.seq.toNat) ++ (Fv.txt x.key).bytes) ++ (Fv.txt x.val).bytes) = ((((vb x.kind.toNat ++ vb x.client.toNat) ++ vb x.seq.toNat) ++ (Fv.txt x.key).bytes) ++ (Fv.txt x.val).bytes)) := rfl
  obtain ⟨W, hW⟩ : ∃ W, W = w.alloc (.cells x.cells 23) := ⟨_, rfl⟩
  have hB : Hid (Blk W w.heap.size 23 x.cells) := by subst hW; exact Blk.new _ _ _
  have hbW : Hid (Below w.heap.size w W) := by subst hW; exact (Below.refl _ _).alloc (Nat.le_refl _) _
  generalize hg0 : vb x.kind.toNat = s0 at *
  generalize hg1 : vb x.client.toNat = s1 at *
  generalize hg2 : vb x.seq.toNat = s2 at *
  generalize hg3 : (Fv.txt x.key).bytes = s3 at *
  generalize hg4 : (Fv.txt x.val).bytes = s4 at *
  clear n0 n0' n1 n1' n2 n2' n3 n3' t1 t2 t3
  go_enter Tryz.func15, Tryz.ntmps15
  go_wp2_with (fail)
  rw [← hW]
  refine (H_kind.out _).mono ?_
  rintro e w1 ⟨A1, n1, c1, rfl, ho, hb⟩
  have S1 : Hid (Sofar W w1 A1 n1 c1 s0) := ⟨ho, hb⟩
  have hn1 : n1 ≤ 9 := by have := S1.out.len; omega
  have hBx := hB.out.call hb
  obtain ⟨kc, kf, hlt⟩ := hBx.facts
  clear ho hb hW
  go_wp2_with (fail)
  refine (HO.out _).mono ?_
  rintro e y ⟨rfl, rfl⟩
  go_wp2_with (fail)
  refine (H_client.out _).mono ?_
  rintro e w2 ⟨B, k, d, rfl, ho, hb⟩
  have hk : k ≤ 9 := by have := (BAt.own ho).len; omega
  have S0 := S1.out.call hb
  have hz := S0.2.size
  clear kc kf hlt hb S1
  go_wp2_with (at_builtin; refine wpList_append_any _ rfl _ _ 26 rfl W.heap.size 5 i0 _ 1 1 Tryz.underlying26 hi hz0 hz1 hz2 rfl (by omega) (.slice A1 n1 c1) n1 _ rfl S0.1 w2.heap.size B k d _ rfl (BAt.own ho) (bytes_one _) (by simp only [maxLen]; omega) (by omega) hz ?_)
  intro v' x2 ho3 hg3 _
  obtain ⟨A2, c2, rfl, Sx⟩ := S0.append ho3 hg3
  have hBx := hB.out.call Sx.2
  obtain ⟨kc, kf, hlt⟩ := hBx.facts
  obtain ⟨L2, E2, S2⟩ : ∃ L, Hid (L = s0 ++ s1) ∧ Hid (Sofar W x2 A2 (n1 + k) c2 L) := ⟨_, rfl, Sx⟩
  have hn2 : n1 + k ≤ 18 := by omega
  clear S0 Sx ho ho3 hg3 hz hk hn1 hBx
  generalize n1 + k = n2 at *
  go_wp2_with (fail)
  refine (H_seq.out _).mono ?_
  rintro e w3 ⟨B, k, d, rfl, ho, hb⟩
  have hk : k ≤ 9 := by have := (BAt.own ho).len; omega
  have S0 := S2.out.call hb
  have hz := S0.2.size
  clear kc kf hlt hb S2
  go_wp2_with (at_builtin; refine wpList_append_any _ rfl _ _ 26 rfl W.heap.size 5 i0 _ 1 1 Tryz.underlying26 hi hz0 hz1 hz2 rfl (by omega) (.slice A2 n2 c2) n2 _ rfl S0.1 w3.heap.size B k d _ rfl (BAt.own ho) (bytes_one _) (by simp only [maxLen]; omega) (by omega) hz ?_)
  intro v' x3 ho3 hg3 _
  obtain ⟨A3, c3, rfl, Sx⟩ := S0.append ho3 hg3
  have hBx := hB.out.call Sx.2
  obtain ⟨kc, kf, hlt⟩ := hBx.facts
  obtain ⟨L3, E3, S3⟩ : ∃ L, Hid (L = L2 ++ s2) ∧ Hid (Sofar W x3 A3 (n2 + k) c3 L) := ⟨_, rfl, Sx⟩
  have hn3 : n2 + k ≤ 27 := by omega
  clear S0 Sx ho ho3 hg3 hz hk hn2 hBx
  generalize n2 + k = n3 at *
  go_wp2_with (fail)
  refine (H_key.out _).mono ?_
  rintro e w4 ⟨B, k, d, rfl, ho, hb⟩
  have hk : k ≤ 90009 := by have := (BAt.own ho).len; omega
  have S0 := S3.out.call hb
  have hz := S0.2.size
  clear kc kf hlt hb S3
  go_wp2_with (at_builtin; refine wpList_append_any _ rfl _ _ 26 rfl W.heap.size 5 i0 _ 1 1 Tryz.underlying26 hi hz0 hz1 hz2 rfl (by omega) (.slice A3 n3 c3) n3 _ rfl S0.1 w4.heap.size B k d _ rfl (BAt.own ho) (bytes_one _) (by simp only [maxLen]; omega) (by omega) hz ?_)
  intro v' x4 ho3 hg3 _
  obtain ⟨A4, c4, rfl, Sx⟩ := S0.append ho3 hg3
  have hBx := hB.out.call Sx.2
  obtain ⟨kc, kf, hlt⟩ := hBx.facts
  obtain ⟨L4, E4, S4⟩ : ∃ L, Hid (L = L3 ++ s3) ∧ Hid (Sofar W x4 A4 (n3 + k) c4 L) := ⟨_, rfl, Sx⟩
  have hn4 : n3 + k ≤ 90036 := by omega
  clear S0 Sx ho ho3 hg3 hz hk hn3 hBx
  generalize n3 + k = n4 at *
  go_wp2_with (fail)
  refine (H_val.out _).mono ?_
  rintro e w5 ⟨B, k, d, rfl, ho, hb⟩
  have hk : k ≤ 90009 := by have := (BAt.own ho).len; omega
  have S0 := S4.out.call hb
  have hz := S0.2.size
  clear kc kf hlt hb S4
  go_wp2_with (at_builtin; refine wpList_append_any _ rfl _ _ 26 rfl W.heap.size 5 i0 _ 1 1 Tryz.underlying26 hi hz0 hz1 hz2 rfl (by omega) (.slice A4 n4 c4) n4 _ rfl S0.1 w5.heap.size B k d _ rfl (BAt.own ho) (bytes_one _) (by simp only [maxLen]; omega) (by omega) hz ?_)
  intro v' x5 ho3 hg3 _
  obtain ⟨A5, c5, rfl, Sx⟩ := S0.append ho3 hg3
  have hBx := hB.out.call Sx.2
  obtain ⟨kc, kf, hlt⟩ := hBx.facts
  obtain ⟨L5, E5, S5⟩ : ∃ L, Hid (L = L4 ++ s4) ∧ Hid (Sofar W x5 A5 (n4 + k) c5 L) := ⟨_, rfl, Sx⟩
  have hn5 : n4 + k ≤ 180045 := by omega
  clear S0 Sx ho ho3 hg3 hz hk hn4 hBx
  generalize n4 + k = n5 at *
  go_wp2_with (fail)
  refine (HM.out _).mono ?_
  rintro e y ⟨rfl, rfl⟩
  go_wp2_with (fail)
  go_ret
  refine ⟨A5, n5, c5, rfl, ?_, (S5.out.done hbW.out).2⟩
  have hf := (S5.out.done hbW.out).1
  rw [E5.out, E4.out, E3.out, E2.out] at hf
  exact hf
set_option maxHeartbeats 4000000 in
set_option maxRecDepth 100000 in
theorem refbytes_get (x : CX) (w : World) (ho : ownB x.kind = true) (e5 : (x.kind == 5) = false) (e2 : (x.kind == 2) = false) (hm : memB x.kind = false) (hn : x.nat) (ht : x.tiny) :
    Calls Tryz.prog 15 #[.int .i64 2, x.value] w fun e w' => ∃ B k d, e = .returned (.slice B k d) ∧ w'.ownsRow w.heap.size 5 1 (.slice B k d) k (Lib.byteCells (((vb x.kind.toNat ++ vb x.client.toNat) ++ vb x.seq.toNat) ++ (Fv.txt x.key).bytes)) ∧ Below w.heap.size w w' := by
  obtain ⟨i0, hi, hz0, hz1, hz2⟩ := info_parts bByte
  obtain ⟨t1, t2, t3⟩ := ht
  obtain ⟨⟨n0, n0'⟩, ⟨n1, n1'⟩, ⟨n2, n2'⟩, ⟨n3, n3'⟩⟩ := hn
  have q_kind : ((x.kind.toNat : Nat) : Int) = x.kind := Int.toNat_of_nonneg n0
  have l_kind := vb_len9 (n := x.kind.toNat) (by omega)
  have H_kind := fun w1 => refBytes_calls x.kind.toNat w1 (by omega)
  rw [q_kind] at H_kind
  have H_kind := Lib.hid H_kind
  have q_client : ((x.client.toNat : Nat) : Int) = x.client := Int.toNat_of_nonneg n1
  have l_client := vb_len9 (n := x.client.toNat) (by omega)
  have H_client := fun w1 => refBytes_calls x.client.toNat w1 (by omega)
  rw [q_client] at H_client
  have H_client := Lib.hid H_client
  have q_seq : ((x.seq.toNat : Nat) : Int) = x.seq := Int.toNat_of_nonneg n2
  have l_seq := vb_len9 (n := x.seq.toNat) (by omega)
  have H_seq := fun w1 => refBytes_calls x.seq.toNat w1 (by omega)
  rw [q_seq] at H_seq
  have H_seq := Lib.hid H_seq
  have l_key : (Fv.txt x.key).bytes.length ≤ 90009 := by
    have a := vb_len9 (n := x.key.length) (by omega)
    have b : (Fv.txt x.key).bytes.length = (vb x.key.length).length + x.key.length := by simp [Fv.bytes]
    omega
  have H_key := fun w1 => refText_calls (str x.key) w1 (by rw [str_size]; omega)
  rw [toL_str] at H_key
  have H_key := Lib.hid H_key
  have HO : ∀ w, Calls Tryz.prog 39 #[.int .i64 x.kind] w fun e w' => e = .returned (.bool true) ∧ w = w' := fun w => ho ▸ refOwned_calls x.kind w
  have HM : ∀ w, Calls Tryz.prog 41 #[.int .i64 x.kind] w fun e w' => e = .returned (.bool false) ∧ w = w' := fun w => hm ▸ refmember_calls x.kind w
  have HO := Lib.hid HO
  have HM := Lib.hid HM
  clear ho hm
  have hcat : Hid ((((vb x.kind.toNat ++ vb x.client.toNat) ++ vb x.seq.toNat) ++ (Fv.txt x.key).bytes) = (((vb x.kind.toNat ++ vb x.client.toNat) ++ vb x.seq.toNat) ++ (Fv.txt x.key).bytes)) := rfl
  obtain ⟨W, hW⟩ : ∃ W, W = w.alloc (.cells x.cells 23) := ⟨_, rfl⟩
  have hB : Hid (Blk W w.heap.size 23 x.cells) := by subst hW; exact Blk.new _ _ _
  have hbW : Hid (Below w.heap.size w W) := by subst hW; exact (Below.refl _ _).alloc (Nat.le_refl _) _
  generalize hg0 : vb x.kind.toNat = s0 at *
  generalize hg1 : vb x.client.toNat = s1 at *
  generalize hg2 : vb x.seq.toNat = s2 at *
  generalize hg3 : (Fv.txt x.key).bytes = s3 at *
  clear n0 n0' n1 n1' n2 n2' n3 n3' t1 t2 t3
  go_enter Tryz.func15, Tryz.ntmps15
  go_wp2_with (fail)
  rw [← hW]
  refine (H_kind.out _).mono ?_
  rintro e w1 ⟨A1, n1, c1, rfl, ho, hb⟩
  have S1 : Hid (Sofar W w1 A1 n1 c1 s0) := ⟨ho, hb⟩
  have hn1 : n1 ≤ 9 := by have := S1.out.len; omega
  have hBx := hB.out.call hb
  obtain ⟨kc, kf, hlt⟩ := hBx.facts
  clear ho hb hW
  go_wp2_with (fail)
  refine (HO.out _).mono ?_
  rintro e y ⟨rfl, rfl⟩
  go_wp2_with (fail)
  refine (H_client.out _).mono ?_
  rintro e w2 ⟨B, k, d, rfl, ho, hb⟩
  have hk : k ≤ 9 := by have := (BAt.own ho).len; omega
  have S0 := S1.out.call hb
  have hz := S0.2.size
  clear kc kf hlt hb S1
  go_wp2_with (at_builtin; refine wpList_append_any _ rfl _ _ 26 rfl W.heap.size 5 i0 _ 1 1 Tryz.underlying26 hi hz0 hz1 hz2 rfl (by omega) (.slice A1 n1 c1) n1 _ rfl S0.1 w2.heap.size B k d _ rfl (BAt.own ho) (bytes_one _) (by simp only [maxLen]; omega) (by omega) hz ?_)
  intro v' x2 ho3 hg3 _
  obtain ⟨A2, c2, rfl, Sx⟩ := S0.append ho3 hg3
  have hBx := hB.out.call Sx.2
  obtain ⟨kc, kf, hlt⟩ := hBx.facts
  obtain ⟨L2, E2, S2⟩ : ∃ L, Hid (L = s0 ++ s1) ∧ Hid (Sofar W x2 A2 (n1 + k) c2 L) := ⟨_, rfl, Sx⟩
  have hn2 : n1 + k ≤ 18 := by omega
  clear S0 Sx ho ho3 hg3 hz hk hn1 hBx
  generalize n1 + k = n2 at *
  go_wp2_with (fail)
  refine (H_seq.out _).mono ?_
  rintro e w3 ⟨B, k, d, rfl, ho, hb⟩
  have hk : k ≤ 9 := by have := (BAt.own ho).len; omega
  have S0 := S2.out.call hb
  have hz := S0.2.size
  clear kc kf hlt hb S2
  go_wp2_with (at_builtin; refine wpList_append_any _ rfl _ _ 26 rfl W.heap.size 5 i0 _ 1 1 Tryz.underlying26 hi hz0 hz1 hz2 rfl (by omega) (.slice A2 n2 c2) n2 _ rfl S0.1 w3.heap.size B k d _ rfl (BAt.own ho) (bytes_one _) (by simp only [maxLen]; omega) (by omega) hz ?_)
  intro v' x3 ho3 hg3 _
  obtain ⟨A3, c3, rfl, Sx⟩ := S0.append ho3 hg3
  have hBx := hB.out.call Sx.2
  obtain ⟨kc, kf, hlt⟩ := hBx.facts
  obtain ⟨L3, E3, S3⟩ : ∃ L, Hid (L = L2 ++ s2) ∧ Hid (Sofar W x3 A3 (n2 + k) c3 L) := ⟨_, rfl, Sx⟩
  have hn3 : n2 + k ≤ 27 := by omega
  clear S0 Sx ho ho3 hg3 hz hk hn2 hBx
  generalize n2 + k = n3 at *
  go_wp2_with (fail)
  refine (H_key.out _).mono ?_
  rintro e w4 ⟨B, k, d, rfl, ho, hb⟩
  have hk : k ≤ 90009 := by have := (BAt.own ho).len; omega
  have S0 := S3.out.call hb
  have hz := S0.2.size
  clear kc kf hlt hb S3
  go_wp2_with (at_builtin; refine wpList_append_any _ rfl _ _ 26 rfl W.heap.size 5 i0 _ 1 1 Tryz.underlying26 hi hz0 hz1 hz2 rfl (by omega) (.slice A3 n3 c3) n3 _ rfl S0.1 w4.heap.size B k d _ rfl (BAt.own ho) (bytes_one _) (by simp only [maxLen]; omega) (by omega) hz ?_)
  intro v' x4 ho3 hg3 _
  obtain ⟨A4, c4, rfl, Sx⟩ := S0.append ho3 hg3
  have hBx := hB.out.call Sx.2
  obtain ⟨kc, kf, hlt⟩ := hBx.facts
  obtain ⟨L4, E4, S4⟩ : ∃ L, Hid (L = L3 ++ s3) ∧ Hid (Sofar W x4 A4 (n3 + k) c4 L) := ⟨_, rfl, Sx⟩
  have hn4 : n3 + k ≤ 90036 := by omega
  clear S0 Sx ho ho3 hg3 hz hk hn3 hBx
  generalize n3 + k = n4 at *
  go_wp2_with (fail)
  refine (HM.out _).mono ?_
  rintro e y ⟨rfl, rfl⟩
  go_wp2_with (fail)
  go_ret
  refine ⟨A4, n4, c4, rfl, ?_, (S4.out.done hbW.out).2⟩
  have hf := (S4.out.done hbW.out).1
  rw [E4.out, E3.out, E2.out] at hf
  exact hf
set_option maxHeartbeats 4000000 in
set_option maxRecDepth 100000 in
theorem refbytes_cas (x : CX) (w : World) (ho : ownB x.kind = true) (e5 : (x.kind == 5) = true) (e2 : (x.kind == 2) = false) (hm : memB x.kind = false) (hn : x.nat) (ht : x.tiny) :
    Calls Tryz.prog 15 #[.int .i64 2, x.value] w fun e w' => ∃ B k d, e = .returned (.slice B k d) ∧ w'.ownsRow w.heap.size 5 1 (.slice B k d) k (Lib.byteCells (((((vb x.kind.toNat ++ vb x.client.toNat) ++ vb x.seq.toNat) ++ (Fv.txt x.key).bytes) ++ (Fv.txt x.old).bytes) ++ (Fv.txt x.val).bytes)) ∧ Below w.heap.size w w' := by
  obtain ⟨i0, hi, hz0, hz1, hz2⟩ := info_parts bByte
  obtain ⟨t1, t2, t3⟩ := ht
  obtain ⟨⟨n0, n0'⟩, ⟨n1, n1'⟩, ⟨n2, n2'⟩, ⟨n3, n3'⟩⟩ := hn
  have q_kind : ((x.kind.toNat : Nat) : Int) = x.kind := Int.toNat_of_nonneg n0
  have l_kind := vb_len9 (n := x.kind.toNat) (by omega)
  have H_kind := fun w1 => refBytes_calls x.kind.toNat w1 (by omega)
  rw [q_kind] at H_kind
  have H_kind := Lib.hid H_kind
  have q_client : ((x.client.toNat : Nat) : Int) = x.client := Int.toNat_of_nonneg n1
  have l_client := vb_len9 (n := x.client.toNat) (by omega)
  have H_client := fun w1 => refBytes_calls x.client.toNat w1 (by omega)
  rw [q_client] at H_client
  have H_client := Lib.hid H_client
  have q_seq : ((x.seq.toNat : Nat) : Int) = x.seq := Int.toNat_of_nonneg n2
  have l_seq := vb_len9 (n := x.seq.toNat) (by omega)
  have H_seq := fun w1 => refBytes_calls x.seq.toNat w1 (by omega)
  rw [q_seq] at H_seq
  have H_seq := Lib.hid H_seq
  have l_key : (Fv.txt x.key).bytes.length ≤ 90009 := by
    have a := vb_len9 (n := x.key.length) (by omega)
    have b : (Fv.txt x.key).bytes.length = (vb x.key.length).length + x.key.length := by simp [Fv.bytes]
    omega
  have H_key := fun w1 => refText_calls (str x.key) w1 (by rw [str_size]; omega)
  rw [toL_str] at H_key
  have H_key := Lib.hid H_key
  have l_old : (Fv.txt x.old).bytes.length ≤ 90009 := by
    have a := vb_len9 (n := x.old.length) (by omega)
    have b : (Fv.txt x.old).bytes.length = (vb x.old.length).length + x.old.length := by simp [Fv.bytes]
    omega
  have H_old := fun w1 => refText_calls (str x.old) w1 (by rw [str_size]; omega)
  rw [toL_str] at H_old
  have H_old := Lib.hid H_old
  have l_val : (Fv.txt x.val).bytes.length ≤ 90009 := by
    have a := vb_len9 (n := x.val.length) (by omega)
    have b : (Fv.txt x.val).bytes.length = (vb x.val.length).length + x.val.length := by simp [Fv.bytes]
    omega
  have H_val := fun w1 => refText_calls (str x.val) w1 (by rw [str_size]; omega)
  rw [toL_str] at H_val
  have H_val := Lib.hid H_val
  have HO : ∀ w, Calls Tryz.prog 39 #[.int .i64 x.kind] w fun e w' => e = .returned (.bool true) ∧ w = w' := fun w => ho ▸ refOwned_calls x.kind w
  have HM : ∀ w, Calls Tryz.prog 41 #[.int .i64 x.kind] w fun e w' => e = .returned (.bool false) ∧ w = w' := fun w => hm ▸ refmember_calls x.kind w
  have HO := Lib.hid HO
  have HM := Lib.hid HM
  clear ho hm
  have hcat : Hid ((((((vb x.kind.toNat ++ vb x.client.toNat) ++ vb x.seq.toNat) ++ (Fv.txt x.key).bytes) ++ (Fv.txt x.old).bytes) ++ (Fv.txt x.val).bytes) = (((((vb x.kind.toNat ++ vb x.client.toNat) ++ vb x.seq.toNat) ++ (Fv.txt x.key).bytes) ++ (Fv.txt x.old).bytes) ++ (Fv.txt x.val).bytes)) := rfl
  obtain ⟨W, hW⟩ : ∃ W, W = w.alloc (.cells x.cells 23) := ⟨_, rfl⟩
  have hB : Hid (Blk W w.heap.size 23 x.cells) := by subst hW; exact Blk.new _ _ _
  have hbW : Hid (Below w.heap.size w W) := by subst hW; exact (Below.refl _ _).alloc (Nat.le_refl _) _
  generalize hg0 : vb x.kind.toNat = s0 at *
  generalize hg1 : vb x.client.toNat = s1 at *
  generalize hg2 : vb x.seq.toNat = s2 at *
  generalize hg3 : (Fv.txt x.key).bytes = s3 at *
  generalize hg4 : (Fv.txt x.old).bytes = s4 at *
  generalize hg5 : (Fv.txt x.val).bytes = s5 at *
  clear n0 n0' n1 n1' n2 n2' n3 n3' t1 t2 t3
  go_enter Tryz.func15, Tryz.ntmps15
  go_wp2_with (fail)
  rw [← hW]
  refine (H_kind.out _).mono ?_
  rintro e w1 ⟨A1, n1, c1, rfl, ho, hb⟩
  have S1 : Hid (Sofar W w1 A1 n1 c1 s0) := ⟨ho, hb⟩
  have hn1 : n1 ≤ 9 := by have := S1.out.len; omega
  have hBx := hB.out.call hb
  obtain ⟨kc, kf, hlt⟩ := hBx.facts
  clear ho hb hW
  go_wp2_with (fail)
  refine (HO.out _).mono ?_
  rintro e y ⟨rfl, rfl⟩
  go_wp2_with (fail)
  refine (H_client.out _).mono ?_
  rintro e w2 ⟨B, k, d, rfl, ho, hb⟩
  have hk : k ≤ 9 := by have := (BAt.own ho).len; omega
  have S0 := S1.out.call hb
  have hz := S0.2.size
  clear kc kf hlt hb S1
  go_wp2_with (at_builtin; refine wpList_append_any _ rfl _ _ 26 rfl W.heap.size 5 i0 _ 1 1 Tryz.underlying26 hi hz0 hz1 hz2 rfl (by omega) (.slice A1 n1 c1) n1 _ rfl S0.1 w2.heap.size B k d _ rfl (BAt.own ho) (bytes_one _) (by simp only [maxLen]; omega) (by omega) hz ?_)
  intro v' x2 ho3 hg3 _
  obtain ⟨A2, c2, rfl, Sx⟩ := S0.append ho3 hg3
  have hBx := hB.out.call Sx.2
  obtain ⟨kc, kf, hlt⟩ := hBx.facts
  obtain ⟨L2, E2, S2⟩ : ∃ L, Hid (L = s0 ++ s1) ∧ Hid (Sofar W x2 A2 (n1 + k) c2 L) := ⟨_, rfl, Sx⟩
  have hn2 : n1 + k ≤ 18 := by omega
  clear S0 Sx ho ho3 hg3 hz hk hn1 hBx
  generalize n1 + k = n2 at *
  go_wp2_with (fail)
  refine (H_seq.out _).mono ?_
  rintro e w3 ⟨B, k, d, rfl, ho, hb⟩
  have hk : k ≤ 9 := by have := (BAt.own ho).len; omega
  have S0 := S2.out.call hb
  have hz := S0.2.size
  clear kc kf hlt hb S2
  go_wp2_with (at_builtin; refine wpList_append_any _ rfl _ _ 26 rfl W.heap.size 5 i0 _ 1 1 Tryz.underlying26 hi hz0 hz1 hz2 rfl (by omega) (.slice A2 n2 c2) n2 _ rfl S0.1 w3.heap.size B k d _ rfl (BAt.own ho) (bytes_one _) (by simp only [maxLen]; omega) (by omega) hz ?_)
  intro v' x3 ho3 hg3 _
  obtain ⟨A3, c3, rfl, Sx⟩ := S0.append ho3 hg3
  have hBx := hB.out.call Sx.2
  obtain ⟨kc, kf, hlt⟩ := hBx.facts
  obtain ⟨L3, E3, S3⟩ : ∃ L, Hid (L = L2 ++ s2) ∧ Hid (Sofar W x3 A3 (n2 + k) c3 L) := ⟨_, rfl, Sx⟩
  have hn3 : n2 + k ≤ 27 := by omega
  clear S0 Sx ho ho3 hg3 hz hk hn2 hBx
  generalize n2 + k = n3 at *
  go_wp2_with (fail)
  refine (H_key.out _).mono ?_
  rintro e w4 ⟨B, k, d, rfl, ho, hb⟩
  have hk : k ≤ 90009 := by have := (BAt.own ho).len; omega
  have S0 := S3.out.call hb
  have hz := S0.2.size
  clear kc kf hlt hb S3
  go_wp2_with (at_builtin; refine wpList_append_any _ rfl _ _ 26 rfl W.heap.size 5 i0 _ 1 1 Tryz.underlying26 hi hz0 hz1 hz2 rfl (by omega) (.slice A3 n3 c3) n3 _ rfl S0.1 w4.heap.size B k d _ rfl (BAt.own ho) (bytes_one _) (by simp only [maxLen]; omega) (by omega) hz ?_)
  intro v' x4 ho3 hg3 _
  obtain ⟨A4, c4, rfl, Sx⟩ := S0.append ho3 hg3
  have hBx := hB.out.call Sx.2
  obtain ⟨kc, kf, hlt⟩ := hBx.facts
  obtain ⟨L4, E4, S4⟩ : ∃ L, Hid (L = L3 ++ s3) ∧ Hid (Sofar W x4 A4 (n3 + k) c4 L) := ⟨_, rfl, Sx⟩
  have hn4 : n3 + k ≤ 90036 := by omega
  clear S0 Sx ho ho3 hg3 hz hk hn3 hBx
  generalize n3 + k = n4 at *
  go_wp2_with (fail)
  refine (H_old.out _).mono ?_
  rintro e w5 ⟨B, k, d, rfl, ho, hb⟩
  have hk : k ≤ 90009 := by have := (BAt.own ho).len; omega
  have S0 := S4.out.call hb
  have hz := S0.2.size
  clear kc kf hlt hb S4
  go_wp2_with (at_builtin; refine wpList_append_any _ rfl _ _ 26 rfl W.heap.size 5 i0 _ 1 1 Tryz.underlying26 hi hz0 hz1 hz2 rfl (by omega) (.slice A4 n4 c4) n4 _ rfl S0.1 w5.heap.size B k d _ rfl (BAt.own ho) (bytes_one _) (by simp only [maxLen]; omega) (by omega) hz ?_)
  intro v' x5 ho3 hg3 _
  obtain ⟨A5, c5, rfl, Sx⟩ := S0.append ho3 hg3
  have hBx := hB.out.call Sx.2
  obtain ⟨kc, kf, hlt⟩ := hBx.facts
  obtain ⟨L5, E5, S5⟩ : ∃ L, Hid (L = L4 ++ s4) ∧ Hid (Sofar W x5 A5 (n4 + k) c5 L) := ⟨_, rfl, Sx⟩
  have hn5 : n4 + k ≤ 180045 := by omega
  clear S0 Sx ho ho3 hg3 hz hk hn4 hBx
  generalize n4 + k = n5 at *
  go_wp2_with (fail)
  refine (H_val.out _).mono ?_
  rintro e w6 ⟨B, k, d, rfl, ho, hb⟩
  have hk : k ≤ 90009 := by have := (BAt.own ho).len; omega
  have S0 := S5.out.call hb
  have hz := S0.2.size
  clear kc kf hlt hb S5
  go_wp2_with (at_builtin; refine wpList_append_any _ rfl _ _ 26 rfl W.heap.size 5 i0 _ 1 1 Tryz.underlying26 hi hz0 hz1 hz2 rfl (by omega) (.slice A5 n5 c5) n5 _ rfl S0.1 w6.heap.size B k d _ rfl (BAt.own ho) (bytes_one _) (by simp only [maxLen]; omega) (by omega) hz ?_)
  intro v' x6 ho3 hg3 _
  obtain ⟨A6, c6, rfl, Sx⟩ := S0.append ho3 hg3
  have hBx := hB.out.call Sx.2
  obtain ⟨kc, kf, hlt⟩ := hBx.facts
  obtain ⟨L6, E6, S6⟩ : ∃ L, Hid (L = L5 ++ s5) ∧ Hid (Sofar W x6 A6 (n5 + k) c6 L) := ⟨_, rfl, Sx⟩
  have hn6 : n5 + k ≤ 270054 := by omega
  clear S0 Sx ho ho3 hg3 hz hk hn5 hBx
  generalize n5 + k = n6 at *
  go_wp2_with (fail)
  refine (HM.out _).mono ?_
  rintro e y ⟨rfl, rfl⟩
  go_wp2_with (fail)
  go_ret
  refine ⟨A6, n6, c6, rfl, ?_, (S6.out.done hbW.out).2⟩
  have hf := (S6.out.done hbW.out).1
  rw [E6.out, E5.out, E4.out, E3.out, E2.out] at hf
  exact hf
set_option maxHeartbeats 4000000 in
set_option maxRecDepth 100000 in
theorem refbytes_mem (x : CX) (w : World) (ho : ownB x.kind = false) (e5 : (x.kind == 5) = false) (e2 : (x.kind == 2) = false) (hm : memB x.kind = true) (hn : x.nat) (ht : x.tiny) :
    Calls Tryz.prog 15 #[.int .i64 2, x.value] w fun e w' => ∃ B k d, e = .returned (.slice B k d) ∧ w'.ownsRow w.heap.size 5 1 (.slice B k d) k (Lib.byteCells (vb x.kind.toNat ++ vb x.node.toNat)) ∧ Below w.heap.size w w' := by
  obtain ⟨i0, hi, hz0, hz1, hz2⟩ := info_parts bByte
  obtain ⟨t1, t2, t3⟩ := ht
  obtain ⟨⟨n0, n0'⟩, ⟨n1, n1'⟩, ⟨n2, n2'⟩, ⟨n3, n3'⟩⟩ := hn
  have q_kind : ((x.kind.toNat : Nat) : Int) = x.kind := Int.toNat_of_nonneg n0
  have l_kind := vb_len9 (n := x.kind.toNat) (by omega)
  have H_kind := fun w1 => refBytes_calls x.kind.toNat w1 (by omega)
  rw [q_kind] at H_kind
  have H_kind := Lib.hid H_kind
  have q_node : ((x.node.toNat : Nat) : Int) = x.node := Int.toNat_of_nonneg n3
  have l_node := vb_len9 (n := x.node.toNat) (by omega)
  have H_node := fun w1 => refBytes_calls x.node.toNat w1 (by omega)
  rw [q_node] at H_node
  have H_node := Lib.hid H_node
  have HO : ∀ w, Calls Tryz.prog 39 #[.int .i64 x.kind] w fun e w' => e = .returned (.bool false) ∧ w = w' := fun w => ho ▸ refOwned_calls x.kind w
  have HM : ∀ w, Calls Tryz.prog 41 #[.int .i64 x.kind] w fun e w' => e = .returned (.bool true) ∧ w = w' := fun w => hm ▸ refmember_calls x.kind w
  have HO := Lib.hid HO
  have HM := Lib.hid HM
  clear ho hm
  have hcat : Hid ((vb x.kind.toNat ++ vb x.node.toNat) = (vb x.kind.toNat ++ vb x.node.toNat)) := rfl
  obtain ⟨W, hW⟩ : ∃ W, W = w.alloc (.cells x.cells 23) := ⟨_, rfl⟩
  have hB : Hid (Blk W w.heap.size 23 x.cells) := by subst hW; exact Blk.new _ _ _
  have hbW : Hid (Below w.heap.size w W) := by subst hW; exact (Below.refl _ _).alloc (Nat.le_refl _) _
  generalize hg0 : vb x.kind.toNat = s0 at *
  generalize hg1 : vb x.node.toNat = s1 at *
  clear n0 n0' n1 n1' n2 n2' n3 n3' t1 t2 t3
  go_enter Tryz.func15, Tryz.ntmps15
  go_wp2_with (fail)
  rw [← hW]
  refine (H_kind.out _).mono ?_
  rintro e w1 ⟨A1, n1, c1, rfl, ho, hb⟩
  have S1 : Hid (Sofar W w1 A1 n1 c1 s0) := ⟨ho, hb⟩
  have hn1 : n1 ≤ 9 := by have := S1.out.len; omega
  have hBx := hB.out.call hb
  obtain ⟨kc, kf, hlt⟩ := hBx.facts
  clear ho hb hW
  go_wp2_with (fail)
  refine (HO.out _).mono ?_
  rintro e y ⟨rfl, rfl⟩
  go_wp2_with (fail)
  refine (HM.out _).mono ?_
  rintro e y ⟨rfl, rfl⟩
  go_wp2_with (fail)
  refine (H_node.out _).mono ?_
  rintro e w2 ⟨B, k, d, rfl, ho, hb⟩
  have hk : k ≤ 9 := by have := (BAt.own ho).len; omega
  have S0 := S1.out.call hb
  have hz := S0.2.size
  clear kc kf hlt hb S1
  go_wp2_with (at_builtin; refine wpList_append_any _ rfl _ _ 26 rfl W.heap.size 5 i0 _ 1 1 Tryz.underlying26 hi hz0 hz1 hz2 rfl (by omega) (.slice A1 n1 c1) n1 _ rfl S0.1 w2.heap.size B k d _ rfl (BAt.own ho) (bytes_one _) (by simp only [maxLen]; omega) (by omega) hz ?_)
  intro v' x2 ho3 hg3 _
  obtain ⟨A2, c2, rfl, Sx⟩ := S0.append ho3 hg3
  have hBx := hB.out.call Sx.2
  obtain ⟨kc, kf, hlt⟩ := hBx.facts
  obtain ⟨L2, E2, S2⟩ : ∃ L, Hid (L = s0 ++ s1) ∧ Hid (Sofar W x2 A2 (n1 + k) c2 L) := ⟨_, rfl, Sx⟩
  have hn2 : n1 + k ≤ 18 := by omega
  clear S0 Sx ho ho3 hg3 hz hk hn1 hBx
  generalize n1 + k = n2 at *
  go_wp2_with (fail)
  go_ret
  refine ⟨A2, n2, c2, rfl, ?_, (S2.out.done hbW.out).2⟩
  have hf := (S2.out.done hbW.out).1
  rw [E2.out] at hf
  exact hf
/-- the reference's bytes of a command. -/
theorem refcmdbytes_calls (v : Int) (x : CX) (w : World) (hv : v = 1 ∨ v = 2) (hk : 1 ≤ x.kind ∧ x.kind ≤ 8) (hn : x.nat) (ht : x.tiny) :
    Calls Tryz.prog 15 #[.int .i64 v, x.value] w fun e w' => ∃ B k d, e = .returned (.slice B k d) ∧ w'.ownsRow w.heap.size 5 1 (.slice B k d) k (Lib.byteCells (putB v x 6)) ∧ Below w.heap.size w w' := by
  rcases hv with rfl | rfl
  · have e : putB 1 x 6 = (((((vb x.kind.toNat ++ vb x.client.toNat) ++ vb x.seq.toNat) ++ (Fv.txt x.key).bytes) ++ (Fv.txt x.val).bytes) ++ vb x.node.toNat) := by
      simp only [putB, want_one, pHas]
      simp only [(by decide : ((1 : Int) != 4) = true), (by decide : ((2 : Int) != 4) = true), (by decide : ((4 : Int) != 4) = false), (by decide : ((8 : Int) != 4) = true), (by decide : ((16 : Int) != 4) = true), if_true, Bool.false_eq_true, if_false]
      rfl
    rw [e]
    exact refbytes_one x w hn ht
  · rcases kind_cases hk with h | h | h | h | h | h | h | h
    · have e : putB 2 x 6 = vb x.kind.toNat := by
        simp only [putB, want_two, (by rw [h]; decide : hasB x.kind 0 = false), (by rw [h]; decide : hasB x.kind 1 = false), (by rw [h]; decide : hasB x.kind 2 = false), (by rw [h]; decide : hasB x.kind 3 = false), (by rw [h]; decide : hasB x.kind 4 = false), (by rw [h]; decide : hasB x.kind 5 = false), if_true, Bool.false_eq_true, if_false]
      rw [e]
      exact refbytes_none x w (by rw [h]; decide) (by rw [h]; decide) (by rw [h]; decide) (by rw [h]; decide) hn ht
    · have e : putB 2 x 6 = ((((vb x.kind.toNat ++ vb x.client.toNat) ++ vb x.seq.toNat) ++ (Fv.txt x.key).bytes) ++ (Fv.txt x.val).bytes) := by
        simp only [putB, want_two, (by rw [h]; decide : hasB x.kind 0 = true), (by rw [h]; decide : hasB x.kind 1 = true), (by rw [h]; decide : hasB x.kind 2 = true), (by rw [h]; decide : hasB x.kind 3 = false), (by rw [h]; decide : hasB x.kind 4 = true), (by rw [h]; decide : hasB x.kind 5 = false), if_true, Bool.false_eq_true, if_false]
        rfl
      rw [e]
      exact refbytes_put x w (by rw [h]; decide) (by rw [h]; decide) (by rw [h]; decide) (by rw [h]; decide) hn ht
    · have e : putB 2 x 6 = (((vb x.kind.toNat ++ vb x.client.toNat) ++ vb x.seq.toNat) ++ (Fv.txt x.key).bytes) := by
        simp only [putB, want_two, (by rw [h]; decide : hasB x.kind 0 = true), (by rw [h]; decide : hasB x.kind 1 = true), (by rw [h]; decide : hasB x.kind 2 = true), (by rw [h]; decide : hasB x.kind 3 = false), (by rw [h]; decide : hasB x.kind 4 = false), (by rw [h]; decide : hasB x.kind 5 = false), if_true, Bool.false_eq_true, if_false]
        rfl
      rw [e]
      exact refbytes_get x w (by rw [h]; decide) (by rw [h]; decide) (by rw [h]; decide) (by rw [h]; decide) hn ht
    · have e : putB 2 x 6 = (((vb x.kind.toNat ++ vb x.client.toNat) ++ vb x.seq.toNat) ++ (Fv.txt x.key).bytes) := by
        simp only [putB, want_two, (by rw [h]; decide : hasB x.kind 0 = true), (by rw [h]; decide : hasB x.kind 1 = true), (by rw [h]; decide : hasB x.kind 2 = true), (by rw [h]; decide : hasB x.kind 3 = false), (by rw [h]; decide : hasB x.kind 4 = false), (by rw [h]; decide : hasB x.kind 5 = false), if_true, Bool.false_eq_true, if_false]
        rfl
      rw [e]
      exact refbytes_get x w (by rw [h]; decide) (by rw [h]; decide) (by rw [h]; decide) (by rw [h]; decide) hn ht
    · have e : putB 2 x 6 = (((((vb x.kind.toNat ++ vb x.client.toNat) ++ vb x.seq.toNat) ++ (Fv.txt x.key).bytes) ++ (Fv.txt x.old).bytes) ++ (Fv.txt x.val).bytes) := by
        simp only [putB, want_two, (by rw [h]; decide : hasB x.kind 0 = true), (by rw [h]; decide : hasB x.kind 1 = true), (by rw [h]; decide : hasB x.kind 2 = true), (by rw [h]; decide : hasB x.kind 3 = true), (by rw [h]; decide : hasB x.kind 4 = true), (by rw [h]; decide : hasB x.kind 5 = false), if_true, Bool.false_eq_true, if_false]
        rfl
      rw [e]
      exact refbytes_cas x w (by rw [h]; decide) (by rw [h]; decide) (by rw [h]; decide) (by rw [h]; decide) hn ht
    · have e : putB 2 x 6 = vb x.kind.toNat := by
        simp only [putB, want_two, (by rw [h]; decide : hasB x.kind 0 = false), (by rw [h]; decide : hasB x.kind 1 = false), (by rw [h]; decide : hasB x.kind 2 = false), (by rw [h]; decide : hasB x.kind 3 = false), (by rw [h]; decide : hasB x.kind 4 = false), (by rw [h]; decide : hasB x.kind 5 = false), if_true, Bool.false_eq_true, if_false]
      rw [e]
      exact refbytes_none x w (by rw [h]; decide) (by rw [h]; decide) (by rw [h]; decide) (by rw [h]; decide) hn ht
    · have e : putB 2 x 6 = (vb x.kind.toNat ++ vb x.node.toNat) := by
        simp only [putB, want_two, (by rw [h]; decide : hasB x.kind 0 = false), (by rw [h]; decide : hasB x.kind 1 = false), (by rw [h]; decide : hasB x.kind 2 = false), (by rw [h]; decide : hasB x.kind 3 = false), (by rw [h]; decide : hasB x.kind 4 = false), (by rw [h]; decide : hasB x.kind 5 = true), if_true, Bool.false_eq_true, if_false]
        rfl
      rw [e]
      exact refbytes_mem x w (by rw [h]; decide) (by rw [h]; decide) (by rw [h]; decide) (by rw [h]; decide) hn ht
    · have e : putB 2 x 6 = (vb x.kind.toNat ++ vb x.node.toNat) := by
        simp only [putB, want_two, (by rw [h]; decide : hasB x.kind 0 = false), (by rw [h]; decide : hasB x.kind 1 = false), (by rw [h]; decide : hasB x.kind 2 = false), (by rw [h]; decide : hasB x.kind 3 = false), (by rw [h]; decide : hasB x.kind 4 = false), (by rw [h]; decide : hasB x.kind 5 = true), if_true, Bool.false_eq_true, if_false]
        rfl
      rw [e]
      exact refbytes_mem x w (by rw [h]; decide) (by rw [h]; decide) (by rw [h]; decide) (by rw [h]; decide) hn ht
end Go.Proofs.YtdgbpmbknlhgmaaGreatDoor
