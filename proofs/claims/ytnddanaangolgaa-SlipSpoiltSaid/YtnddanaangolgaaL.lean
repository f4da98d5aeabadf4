/- A burst of at most 32 bits changes the sum: plain. -/
import Derived.Test.YtnddanaangolgaaK
set_option linter.unusedSimpArgs false
set_option linter.unusedVariables false
namespace Go.Proofs.Ytnddanaangolgaa.V
def bt (b : Bool) : BitVec 32 := if b then 1#32 else 0#32
/-- The register behind n bits. -/
def crf (r : BitVec 32) (f : Nat → Bool) : Nat → BitVec 32
  | 0 => r
  | n + 1 => bit1 (crf r f n ^^^ bt (f n))
theorem bt_xor (a b : Bool) : bt (a ^^ b) = bt a ^^^ bt b := by cases a <;> cases b <;> decide
theorem crf_xor (r s : BitVec 32) (f g : Nat → Bool) : ∀ n, crf (r ^^^ s) (fun i => f i ^^ g i) n = crf r f n ^^^ crf s g n
  | 0 => rfl
  | n + 1 => by
    rw [crf, crf, crf, crf_xor r s f g n, bt_xor, ← bit1_xor]
    congr 1; ac_rfl
theorem crf_add (r : BitVec 32) (f : Nat → Bool) (n : Nat) : ∀ m, crf r f (n + m) = crf (crf r f n) (fun i => f (n + i)) m
  | 0 => rfl
  | m + 1 => by
    show bit1 (crf r f (n + m) ^^^ bt (f (n + m))) = _
    rw [crf_add r f n m]; rfl
theorem crf_congr {r : BitVec 32} {f g : Nat → Bool} : ∀ {n : Nat}, (∀ i, i < n → f i = g i) → crf r f n = crf r g n
  | 0, _ => rfl
  | n + 1, h => by rw [crf, crf, crf_congr fun i hi => h i (by omega), h n (by omega)]
theorem bit1_zero : bit1 0#32 = 0#32 := by decide
theorem crf_zero {g : Nat → Bool} {n : Nat} (h : ∀ i, i < n → g i = false) : crf 0#32 g n = 0#32 := by
  rw [crf_congr (g := fun _ => false) h]
  induction n with
  | zero => rfl
  | succ n ih => rw [crf, ih fun i hi => h i (by omega)]; decide
theorem bt_low (b : Bool) : (bt b).getLsbD 0 = b := by cases b <;> decide
theorem bt_high (b : Bool) {i : Nat} (h : 0 < i) : (bt b).getLsbD i = false := by
  cases b
  · simp [bt]
  · show (1#32).getLsbD i = false
    rw [BitVec.getLsbD_one]; simp; omega
/-- One bit back. -/
theorem bit1_back {r : BitVec 32} {b : Bool} (h : (bit1 (r ^^^ bt b)).getLsbD 31 = false) : r.getLsbD 0 = b ∧ ∀ i, r.getLsbD (i + 1) = (bit1 (r ^^^ bt b)).getLsbD i := by
  have hx : (r ^^^ bt b).getLsbD 0 = false := by
    cases e : (r ^^^ bt b).getLsbD 0 with
    | false => rfl
    | true =>
      unfold bit1 at h
      rw [e, if_pos rfl, BitVec.getLsbD_xor, BitVec.getLsbD_ushiftRight] at h
      have h1 : (3988292384#32).getLsbD 31 = true := by decide
      rw [h1, BitVec.getLsbD_of_ge _ (1 + 31) (by omega)] at h
      simp at h
  constructor
  · rw [BitVec.getLsbD_xor, bt_low] at hx
    revert hx; cases r.getLsbD 0 <;> cases b <;> simp
  · intro i
    rw [bit1_even hx, BitVec.getLsbD_ushiftRight, BitVec.getLsbD_xor, bt_high b (by omega), Nat.add_comm 1 i]; simp
/-- Behind what ends in noughts the register has the last bits. -/
theorem crf_back {g : Nat → Bool} {n : Nat} (h : crf 0#32 g n = 0#32) : ∀ j, j ≤ 32 → j ≤ n → ∀ i, (crf 0#32 g (n - j)).getLsbD i = (decide (i < j) && g (n - j + i))
  | 0, _, _, i => by rw [Nat.sub_zero, h]; simp
  | j + 1, h1, h2, i => by
    have ih := crf_back h j (by omega) (by omega)
    have e : n - j = (n - (j + 1)) + 1 := by omega
    have h31 := ih 31
    rw [show decide (31 < j) = false by simp; omega, Bool.false_and, e, crf] at h31
    obtain ⟨p0, p1⟩ := bit1_back h31
    rcases i with _ | i
    · rw [p0]; simp
    · rw [p1 i]
      have := ih i
      rw [e, crf] at this
      rw [this, show n - (j + 1) + 1 + i = n - (j + 1) + (i + 1) by omega]
      congr 1
      simp
theorem crf_tail {g : Nat → Bool} {n : Nat} (h : crf 0#32 g n = 0#32) {m : Nat} (hm : m ≤ n) (hz : ∀ i, m ≤ i → i < n → g i = false) : crf 0#32 g m = 0#32 := by
  have : ∀ k, k ≤ n - m → crf 0#32 g (n - k) = 0#32 := by
    intro k
    induction k with
    | zero => intro _; exact h
    | succ k ih =>
      intro hk
      have ih := ih (by omega)
      have e : n - k = (n - (k + 1)) + 1 := by omega
      rw [e, crf, hz _ (by omega) (by omega)] at ih
      have hb := bit1_back (r := crf 0#32 g (n - (k + 1))) (b := false) (by rw [ih]; simp)
      apply BitVec.eq_of_getLsbD_eq
      intro i hi
      rcases i with _ | i
      · rw [hb.1]; simp
      · rw [hb.2 i, ih]; simp
  have := this (n - m) (by omega)
  rwa [show n - (n - m) = m by omega] at this
/-- A BURST of at most 32 bits is seen. -/
theorem burst {g : Nat → Bool} {n m : Nat} (h : crf 0#32 g n = 0#32) (hz : ∀ i, i < n → (i < m ∨ m + 32 ≤ i) → g i = false) : ∀ i, i < n → g i = false := by
  intro i hi
  by_cases h0 : i < m ∨ m + 32 ≤ i
  · exact hz i hi h0
  · have hn : min n (m + 32) ≤ n := Nat.min_le_left _ _
    have h1 := crf_tail h hn fun j h1 h2 => hz j h2 (by omega)
    have h2 := crf_back h1 (min n (m + 32) - m) (by omega) (by omega) (i - m)
    have e : min n (m + 32) - (min n (m + 32) - m) = m := by omega
    rw [e, crf_zero fun j hj => hz j (by omega) (.inl hj), show m + (i - m) = i by omega] at h2
    simp at h2
    exact h2 (by omega)
/-- The bits of bytes. -/
def bitat (l : List UInt8) (p : Nat) : Bool := (l.getD (p / 8) 0).toNat.testBit (p % 8)
theorem byte_bits : ∀ x : Fin 256, bits4 (bits4 (0#32 ^^^ BitVec.ofNat 32 x.val)) = crf 0#32 (fun i => x.val.testBit i) 8 := by decide +kernel
theorem byteC_crf (r : BitVec 32) (x : UInt8) : byteC r x = crf r (fun i => x.toNat.testBit i) 8 := by
  have h1 := byte_bits ⟨x.toNat, x.toNat_lt⟩
  dsimp only at h1
  have h2 := crf_xor r 0#32 (fun _ => false) (fun i => x.toNat.testBit i) 8
  rw [BitVec.xor_zero] at h2
  rw [show (fun i => (false ^^ x.toNat.testBit i)) = fun i => x.toNat.testBit i by funext i; simp] at h2
  rw [h2, ← h1]
  unfold byteC
  rw [bits4_xor, bits4_xor, BitVec.zero_xor]
  congr 1
  simp [crf, bt, bits4]
theorem crc_crf (r : BitVec 32) (l : List UInt8) : ∀ n, n ≤ l.length → crc r (l.take n) = crf r (bitat l) (8 * n)
  | 0, _ => by simp [crc, crf]
  | n + 1, h => by
    rw [crc_take (by omega), crc_crf r l n (by omega), Nat.mul_succ, crf_add, byteC_crf]
    refine crf_congr fun i hi => ?_
    unfold bitat
    rw [show (8 * n + i) / 8 = n by omega, show (8 * n + i) % 8 = i by omega]
theorem crc_all (r : BitVec 32) (l : List UInt8) : crc r l = crf r (bitat l) (8 * l.length) := by
  rw [← crc_crf r l _ (Nat.le_refl _), List.take_length]
theorem crf_own (d : BitVec 32) : ∀ t, crf d (fun i => d.getLsbD i) t = d >>> t
  | 0 => by simp [crf]
  | t + 1 => by
    rw [crf, crf_own d t]
    have h : (d >>> t ^^^ bt (d.getLsbD t)).getLsbD 0 = false := by
      rw [BitVec.getLsbD_xor, bt_low, BitVec.getLsbD_ushiftRight, Nat.add_zero]; simp
    rw [bit1_even h]
    apply BitVec.eq_of_getLsbD_eq
    intro i hi
    rw [BitVec.getLsbD_ushiftRight, BitVec.getLsbD_xor, BitVec.getLsbD_ushiftRight, BitVec.getLsbD_ushiftRight, bt_high _ (by omega), Bool.xor_false, show t + (1 + i) = t + 1 + i by omega]
theorem leB_get (r : BitVec 32) : ∀ (k j : Nat), j < k → (leB r k).getD j 0 = UInt8.ofNat (r >>> (8 * j)).toNat
  | k + 1, j, h => by
    rw [leB, List.getD_eq_getElem?_getD]
    by_cases hj : j < k
    · rw [List.getElem?_append_left (by rw [leB_len]; exact hj), ← List.getD_eq_getElem?_getD, leB_get r k j hj]
    · have : j = k := by omega
      subst this
      rw [List.getElem?_append_right (by rw [leB_len]; omega), leB_len, Nat.sub_self]; rfl
theorem leB_bit (r : BitVec 32) {p : Nat} (h : p < 32) : bitat (leB r 4) p = r.getLsbD p := by
  unfold bitat
  rw [leB_get r 4 _ (by omega)]
  rw [UInt8.toNat_ofNat', Nat.testBit_mod_two_pow]
  rw [show decide (p % 8 < 8) = true by simp; omega, Bool.true_and]
  rw [← BitVec.getLsbD, BitVec.getLsbD_ushiftRight, show 8 * (p / 8) + p % 8 = p by omega]
/-- What all sums give, taken with their bytes. -/
theorem residue (p : List UInt8) : crc (BitVec.allOnes 32) (p ++ leB (sumB p) 4) = crf 0#32 (fun _ => true) 32 := by
  rw [crc_append]
  unfold sumB
  generalize crc (BitVec.allOnes 32) p = c
  rw [crc_all, leB_len, crf_congr (g := fun i => c.getLsbD i ^^ true) (fun i hi => by rw [leB_bit _ hi, BitVec.getLsbD_not]; simp [hi])]
  have := crf_xor c 0#32 (fun i => c.getLsbD i) (fun _ => true) 32
  rw [BitVec.xor_zero] at this
  rw [this, crf_own]
  have e : c >>> 32 = 0#32 := by
    apply BitVec.eq_of_toNat_eq
    rw [BitVec.toNat_ushiftRight, Nat.shiftRight_eq_div_pow]
    simp [Nat.div_eq_of_lt c.isLt]
  rw [e, BitVec.zero_xor]
/-- Two rows with their sums, of one length, that part within 32 bits only, are the same. -/
theorem same_sum {p q : List UInt8} (hl : p.length = q.length) {x y : List UInt8} (hx : x = p ++ leB (sumB p) 4) (hy : y = q ++ leB (sumB q) 4) {m : Nat} (hz : ∀ i, i < 8 * x.length → (i < m ∨ m + 32 ≤ i) → bitat x i = bitat y i) : ∀ i, i < 8 * x.length → bitat x i = bitat y i := by
  have hly : y.length = x.length := by rw [hx, hy]; simp [hl, leB_len]
  have h1 : crf 0#32 (fun i => bitat x i ^^ bitat y i) (8 * x.length) = 0#32 := by
    have := crf_xor (BitVec.allOnes 32) (BitVec.allOnes 32) (bitat x) (bitat y) (8 * x.length)
    rw [BitVec.xor_self] at this
    rw [this, ← crc_all, ← hly, ← crc_all, hx, hy, residue, residue, BitVec.xor_self]
  have h2 := burst h1 (m := m) fun i hi hh => by rw [hz i hi hh]; simp
  intro i hi
  have := h2 i hi
  revert this
  cases bitat x i <;> cases bitat y i <;> simp
theorem byte_ext {a b : UInt8} (h : ∀ i, i < 8 → a.toNat.testBit i = b.toNat.testBit i) : a = b := by
  apply UInt8.toNat_inj.1
  apply Nat.eq_of_testBit_eq
  intro i
  by_cases hi : i < 8
  · exact h i hi
  · have ha := a.toNat_lt
    have hb := b.toNat_lt
    have : 2 ^ 8 ≤ 2 ^ i := Nat.pow_le_pow_right (by decide) (by omega)
    rw [Nat.testBit_lt_two_pow (by omega), Nat.testBit_lt_two_pow (by omega)]
theorem bytes_ext {x y : List UInt8} (hl : x.length = y.length) (h : ∀ i, i < 8 * x.length → bitat x i = bitat y i) : x = y := by
  apply List.ext_getElem hl
  intro j h1 h2
  apply byte_ext
  intro i hi
  have := h (8 * j + i) (by omega)
  unfold bitat at this
  rw [show (8 * j + i) / 8 = j by omega, show (8 * j + i) % 8 = i by omega] at this
  rw [List.getD_eq_getElem?_getD, List.getD_eq_getElem?_getD, List.getElem?_eq_getElem h1, List.getElem?_eq_getElem h2] at this
  exact this
end Go.Proofs.Ytnddanaangolgaa.V
