/-
Plain arithmetic of CRC-32 on natural numbers: the register's bit step is linear and loses nothing. No program in sight.
-/
import Init
set_option linter.unusedVariables false
namespace Go.Proofs.YtggimkndpmiimaaDoor.Crc

def pol : Nat := 3988292384
def step (r : Nat) : Nat := (r / 2) ^^^ (if r % 2 = 1 then pol else 0)
def step4 (r : Nat) : Nat := step (step (step (step r)))
def step8 (r : Nat) : Nat := step4 (step4 r)
def turn (r c : Nat) : Nat := step8 (r ^^^ c)
def tab : List Nat := [0, 498536548, 997073096, 651767980, 1994146192, 1802195444, 1303535960, 1342533948, 3988292384, 4027552580, 3604390888, 3412177804, 2607071920, 2262029012, 2685067896, 3183342108]
def half (x : Nat) : Nat := (x / 16) ^^^ tab.getD (x % 16) 0

theorem xor_mod2 (a b : Nat) : (a ^^^ b) % 2 = (a % 2 + b % 2) % 2 := by
  have h := Nat.testBit_xor (x := a) (y := b) (i := 0)
  simp only [Nat.testBit_zero] at h
  have ha : a % 2 = 0 ∨ a % 2 = 1 := by omega
  have hb : b % 2 = 0 ∨ b % 2 = 1 := by omega
  have hab : (a ^^^ b) % 2 = 0 ∨ (a ^^^ b) % 2 = 1 := by omega
  rcases ha with ha | ha <;> rcases hb with hb | hb <;> rcases hab with hc | hc <;> simp_all

theorem xor_half (a b : Nat) : (a ^^^ b) / 2 = (a / 2) ^^^ (b / 2) := by
  apply Nat.eq_of_testBit_eq
  intro i
  rw [Nat.testBit_xor, Nat.testBit_div_two, Nat.testBit_div_two, Nat.testBit_div_two, Nat.testBit_xor]

theorem step_xor (a b : Nat) : step (a ^^^ b) = step a ^^^ step b := by
  unfold step
  rw [xor_half, xor_mod2]
  have ha : a % 2 = 0 ∨ a % 2 = 1 := by omega
  have hb : b % 2 = 0 ∨ b % 2 = 1 := by omega
  rcases ha with ha | ha <;> rcases hb with hb | hb <;> simp [ha, hb]
  · rw [Nat.xor_assoc]
  · rw [Nat.xor_assoc, Nat.xor_assoc, Nat.xor_comm (b / 2) pol]
  · have : (a / 2 ^^^ pol) ^^^ (b / 2 ^^^ pol) = (a / 2 ^^^ b / 2) ^^^ (pol ^^^ pol) := by
      rw [Nat.xor_assoc, Nat.xor_assoc]; congr 1
      rw [← Nat.xor_assoc, Nat.xor_comm pol, Nat.xor_assoc]
    rw [this]; simp
theorem step4_xor (a b : Nat) : step4 (a ^^^ b) = step4 a ^^^ step4 b := by simp only [step4, step_xor]
theorem step8_xor (a b : Nat) : step8 (a ^^^ b) = step8 a ^^^ step8 b := by simp only [step8, step4_xor]
theorem step_zero : step 0 = 0 := by decide
theorem step8_zero : step8 0 = 0 := by decide
theorem step_double (q : Nat) : step (2 * q) = q := by
  unfold step
  have h1 : 2 * q / 2 = q := by omega
  have h2 : 2 * q % 2 = 0 := by omega
  rw [h1, h2]; simp
theorem step4_16 (q : Nat) : step4 (16 * q) = q := by
  unfold step4
  rw [show 16 * q = 2 * (2 * (2 * (2 * q))) by omega]
  simp only [step_double]
theorem step8_256 (q : Nat) : step8 (256 * q) = q := by
  unfold step8
  rw [show 256 * q = 16 * (16 * q) by omega, step4_16, step4_16]

theorem xor_parts (q t : Nat) (k : Nat) (ht : t < 2 ^ k) : 2 ^ k * q ^^^ t = 2 ^ k * q + t := by
  rw [Nat.two_pow_add_eq_or_of_lt ht q]
  apply Nat.eq_of_testBit_eq
  intro i
  rw [Nat.testBit_xor, Nat.testBit_or]
  by_cases hi : i < k
  · have : (2 ^ k * q).testBit i = false := by rw [Nat.testBit_two_pow_mul]; simp; omega
    simp [this]
  · have : t.testBit i = false := Nat.testBit_lt_two_pow (Nat.lt_of_lt_of_le ht (Nat.pow_le_pow_right (by decide) (by omega)))
    simp [this]
theorem half_eq (x : Nat) : half x = step4 x := by
  have hx : x = 2 ^ 4 * (x / 16) ^^^ (x % 16) := by rw [xor_parts _ _ 4 (by omega)]; omega
  have ht : ∀ t, t < 16 → step4 t = tab.getD t 0 := by decide
  conv => rhs; rw [hx, step4_xor, step4_16, ht _ (by omega)]
  rfl
theorem turn_half (r c : Nat) : turn r c = half (half (r ^^^ c)) := by rw [half_eq, half_eq]; rfl

theorem step_lt (r : Nat) (h : r < 2 ^ 32) : step r < 2 ^ 32 := by
  unfold step
  refine Nat.xor_lt_two_pow (by omega) ?_
  split <;> decide
theorem step8_lt (r : Nat) (h : r < 2 ^ 32) : step8 r < 2 ^ 32 := by
  unfold step8 step4
  exact step_lt _ (step_lt _ (step_lt _ (step_lt _ (step_lt _ (step_lt _ (step_lt _ (step_lt _ h)))))))
theorem turn_lt (r c : Nat) (h : r < 2 ^ 32) (hc : c < 256) : turn r c < 2 ^ 32 := step8_lt _ (Nat.xor_lt_two_pow h (by omega))

theorem eq_of_xor_eq_zero {a b : Nat} (h : a ^^^ b = 0) : a = b := by
  have : (a ^^^ b) ^^^ b = 0 ^^^ b := by rw [h]
  rw [Nat.xor_assoc, Nat.xor_self] at this
  simpa using this
theorem step_zero_of (d : Nat) (h : d < 2 ^ 32) (hs : step d = 0) : d = 0 := by
  unfold step at hs
  by_cases hd : d % 2 = 1
  · rw [if_pos hd] at hs
    have := eq_of_xor_eq_zero hs
    unfold pol at this
    omega
  · rw [if_neg hd] at hs
    simp at hs
    omega
theorem step8_zero_of (d : Nat) (h : d < 2 ^ 32) (hs : step8 d = 0) : d = 0 := by
  unfold step8 step4 at hs
  have l1 := step_lt _ h
  have l2 := step_lt _ l1
  have l3 := step_lt _ l2
  have l4 := step_lt _ l3
  have l5 := step_lt _ l4
  have l6 := step_lt _ l5
  have l7 := step_lt _ l6
  exact step_zero_of _ h (step_zero_of _ l1 (step_zero_of _ l2 (step_zero_of _ l3 (step_zero_of _ l4 (step_zero_of _ l5 (step_zero_of _ l6 (step_zero_of _ l7 hs)))))))

/-! ### The register over bytes -/
def reg (r : Nat) (l : List UInt8) : Nat := l.foldl (fun r c => turn r c.toNat) r
theorem reg_nil (r : Nat) : reg r [] = r := rfl
theorem reg_cons (r : Nat) (c : UInt8) (l : List UInt8) : reg r (c :: l) = reg (turn r c.toNat) l := rfl
theorem reg_append (r : Nat) (a b : List UInt8) : reg r (a ++ b) = reg (reg r a) b := List.foldl_append
theorem reg_snoc (r : Nat) (a : List UInt8) (c : UInt8) : reg r (a ++ [c]) = turn (reg r a) c.toNat := by rw [reg_append]; rfl
theorem reg_lt (l : List UInt8) : ∀ r, r < 2 ^ 32 → reg r l < 2 ^ 32 := by
  induction l with
  | nil => intro r h; exact h
  | cons c l ih => intro r h; exact ih _ (turn_lt _ _ h c.toNat_lt)
def full : Nat := 4294967295
def sum (l : List UInt8) : Nat := full ^^^ reg full l
theorem full_xor_lt (r : Nat) (h : r < 2 ^ 32) : full ^^^ r < 2 ^ 32 := Nat.xor_lt_two_pow (by decide) h
theorem sum_lt (l : List UInt8) : sum l < 2 ^ 32 := full_xor_lt _ (reg_lt l _ (by decide))
theorem full_xor (r : Nat) (h : r < 2 ^ 32) : full ^^^ r = full - r := by
  have e : (BitVec.allOnes 32 ^^^ BitVec.ofNat 32 r).toNat = 2 ^ 32 - 1 - r := by
    rw [BitVec.allOnes_xor, BitVec.toNat_not, BitVec.toNat_ofNat, Nat.mod_eq_of_lt h]
  rw [BitVec.toNat_xor, BitVec.toNat_allOnes, BitVec.toNat_ofNat, Nat.mod_eq_of_lt h] at e
  exact e
theorem full_full (r : Nat) : full ^^^ (full ^^^ r) = r := by rw [← Nat.xor_assoc, Nat.xor_self]; simp
/-- what a sum goes on with. -/
theorem sum_goes_on (a b : List UInt8) : full ^^^ reg (full ^^^ sum a) b = sum (a ++ b) := by
  unfold sum
  rw [full_full, reg_append]

/-! ### Changes of up to four bytes -/
/-- the difference of two registers goes by the difference of the bytes. -/
theorem turn_xor (r s c d : Nat) : turn r c ^^^ turn s d = turn (r ^^^ s) (c ^^^ d) := by
  unfold turn
  rw [← step8_xor]
  congr 1
  rw [Nat.xor_assoc, Nat.xor_assoc]; congr 1
  rw [← Nat.xor_assoc, Nat.xor_comm c s, Nat.xor_assoc]
/-- bytes that do not differ keep a difference, whether there is one. -/
theorem reg_eq_iff (l : List UInt8) : ∀ r s, r < 2 ^ 32 → s < 2 ^ 32 → (reg r l = reg s l ↔ r = s) := by
  induction l with
  | nil => intro r s _ _; exact Iff.rfl
  | cons c l ih =>
    intro r s hr hs
    rw [reg_cons, reg_cons, ih _ _ (turn_lt _ _ hr c.toNat_lt) (turn_lt _ _ hs c.toNat_lt)]
    constructor
    · intro h
      have h1 := turn_xor r s c.toNat c.toNat
      rw [h, Nat.xor_self, Nat.xor_self] at h1
      unfold turn at h1
      simp only [Nat.xor_zero] at h1
      exact eq_of_xor_eq_zero (step8_zero_of _ (Nat.xor_lt_two_pow hr hs) h1.symm)
    · intro h; rw [h]
/-- a chunk: the difference behind up to four differing bytes. -/
def chunk (d : Nat) : List Nat → Nat
  | [] => d
  | x :: l => chunk (turn d x) l
def word : List Nat → Nat
  | [] => 0
  | x :: l => x + 256 * word l
theorem word_lt : ∀ (l : List Nat) (k : Nat), l.length ≤ k → (∀ x ∈ l, x < 256) → word l < 256 ^ k := by
  intro l
  induction l with
  | nil => intro k _ _; exact Nat.pow_pos (by decide)
  | cons x l ih =>
    intro k hk hx
    cases k with
    | zero => simp at hk
    | succ k =>
      have h1 := ih k (by simpa using hk) (fun y hy => hx y (by simp [hy]))
      have h2 := hx x (by simp)
      simp only [word, Nat.pow_succ]
      omega
/-- fed byte by byte, or as one word: k bytes are 8 k steps of the word. -/
def stepsN : Nat → Nat → Nat
  | 0, d => d
  | k + 1, d => stepsN k (step8 d)
theorem stepsN_lt : ∀ k d, d < 2 ^ 32 → stepsN k d < 2 ^ 32 := by
  intro k
  induction k with
  | zero => intro d h; exact h
  | succ k ih => intro d h; exact ih _ (step8_lt _ h)
theorem stepsN_zero_of : ∀ k d, d < 2 ^ 32 → stepsN k d = 0 → d = 0 := by
  intro k
  induction k with
  | zero => intro d _ h; exact h
  | succ k ih => intro d h hs; exact step8_zero_of _ h (ih _ (step8_lt _ h) hs)
theorem chunk_word : ∀ (l : List Nat), (∀ x ∈ l, x < 256) → ∀ d, chunk d l = stepsN l.length (d ^^^ word l) := by
  intro l
  induction l with
  | nil => intro _ d; simp [chunk, stepsN, word]
  | cons x l ih =>
    intro hx d
    have h2 := hx x (by simp)
    simp only [chunk, List.length_cons, stepsN]
    rw [ih (fun y hy => hx y (by simp [hy]))]
    congr 1
    have e : x + 256 * word l = 256 * word l ^^^ x := by
      have := xor_parts (word l) x 8 (by omega)
      simp only [Nat.reducePow] at this
      omega
    simp only [word, e, turn]
    have e2 : d ^^^ (256 * word l ^^^ x) = (d ^^^ x) ^^^ (256 * word l) := by rw [Nat.xor_comm (256 * word l), ← Nat.xor_assoc]
    rw [e2, step8_xor (d ^^^ x), step8_256]
theorem word_zero : ∀ (l : List Nat), word l = 0 → ∀ x ∈ l, x = 0 := by
  intro l
  induction l with
  | nil => intro _ x hx; cases hx
  | cons y l ih =>
    intro h x hx
    simp only [word] at h
    rcases List.mem_cons.1 hx with rfl | hx
    · omega
    · exact ih (by omega) x hx
theorem chunk_zero_of (l : List Nat) (hl : l.length ≤ 4) (hx : ∀ x ∈ l, x < 256) (h : chunk 0 l = 0) : ∀ x ∈ l, x = 0 := by
  rw [chunk_word l hx] at h
  have hw : word l < 2 ^ 32 := by have := word_lt l 4 hl hx; simpa using this
  have h1 := stepsN_zero_of _ _ (by simpa using hw) h
  exact word_zero l (by simpa using h1)
/-- two chunks of bytes, from one register on. -/
theorem reg_chunk : ∀ (a b : List UInt8), a.length = b.length → ∀ r s, reg r a ^^^ reg s b = chunk (r ^^^ s) (List.zipWith (fun x y => x.toNat ^^^ y.toNat) a b) := by
  intro a
  induction a with
  | nil =>
    intro b hb r s
    cases b with
    | nil => rfl
    | cons y b => simp at hb
  | cons x a ih =>
    intro b hb r s
    cases b with
    | nil => simp at hb
    | cons y b =>
      simp only [reg_cons, List.zipWith_cons_cons, chunk]
      rw [ih b (by simpa using hb), turn_xor]
theorem zip_lt (a b : List UInt8) : ∀ x ∈ List.zipWith (fun x y => x.toNat ^^^ y.toNat) a b, x < 256 := by
  intro z hz
  rw [List.zipWith_eq_zipWith_take_min] at hz
  obtain ⟨i, hi, rfl⟩ := List.mem_iff_getElem.1 hz
  rw [List.getElem_zipWith]
  exact Nat.xor_lt_two_pow (n := 8) (UInt8.toNat_lt _) (UInt8.toNat_lt _)
theorem zip_zero : ∀ (a b : List UInt8), a.length = b.length → (∀ x ∈ List.zipWith (fun x y => x.toNat ^^^ y.toNat) a b, x = 0) → a = b := by
  intro a
  induction a with
  | nil =>
    intro b hb _
    cases b with
    | nil => rfl
    | cons y b => simp at hb
  | cons x a ih =>
    intro b hb h
    cases b with
    | nil => simp at hb
    | cons y b =>
      simp only [List.zipWith_cons_cons] at h
      have h1 := eq_of_xor_eq_zero (h (x.toNat ^^^ y.toNat) (by simp))
      rw [UInt8.toNat_inj.1 h1, ih b (by simpa using hb) (fun z hz => h z (by simp [hz]))]
/-- P2.3: two texts that differ within four bytes alone have another sum, just if they differ. -/
theorem sum_ne_iff (p a b q : List UInt8) (hab : a.length = b.length) (h4 : a.length ≤ 4) : (sum (p ++ a ++ q) = sum (p ++ b ++ q)) ↔ a = b := by
  constructor
  · intro h
    unfold sum at h
    have h1 : reg full (p ++ a ++ q) = reg full (p ++ b ++ q) := by
      have := congrArg (full ^^^ ·) h
      simpa only [full_full] using this
    have hp := reg_lt p full (by decide)
    rw [reg_append, reg_append, reg_append, reg_append, reg_eq_iff q _ _ (reg_lt a _ hp) (reg_lt b _ hp)] at h1
    have h2 := reg_chunk a b hab (reg full p) (reg full p)
    rw [h1, Nat.xor_self, Nat.xor_self] at h2
    exact zip_zero a b hab (chunk_zero_of _ (by simp; omega) (zip_lt a b) h2.symm)
  · rintro rfl; rfl
end Go.Proofs.YtggimkndpmiimaaDoor.Crc
