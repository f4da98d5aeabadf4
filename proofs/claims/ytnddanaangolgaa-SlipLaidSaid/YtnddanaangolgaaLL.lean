/- A burst of at most 32 bits changes the sum: plain. -/
import Derived.Test.YtnddanaangolgaaLD
set_option linter.unusedSimpArgs false
set_option linter.unusedVariables false
namespace Go.Proofs.Ytnddanaangolgaa.V
def bt (b : Bool) : BitVec 32 := if b then 1#32 else 0#32
/-- The register behind n bits. -/
def crf (r : BitVec 32) (f : Nat → Bool) : Nat → BitVec 32
  | 0 => r
  | n + 1 => bit1 (crf r f n ^^^ bt (f n))
theorem bt_xor (a b : Bool) : bt (a ^^ b) = bt a ^^^ bt b := by cases a <;> cases b <;> decide
theorem crf_xor (r s : BitVec 32) (f g : Nat → Bool) : ∀ n, crf (r ^^^ s) (fun i => f i ^^ g i) n = crf r f n ^^^ crf s g n
  | 0 => rfl
  | n + 1 => by
    rw [crf, crf, crf, crf_xor r s f g n, bt_xor, ← bit1_xor]
    congr 1; ac_rfl
theorem crf_add (r : BitVec 32) (f : Nat → Bool) (n : Nat) : ∀ m, crf r f (n + m) = crf (crf r f n) (fun i => f (n + i)) m
  | 0 => rfl
  | m + 1 => by
    show bit1 (crf r f (n + m) ^^^ bt (f (n + m))) = _
    rw [crf_add r f n m]; rfl
theorem crf_congr {r : BitVec 32} {f g : Nat → Bool} : ∀ {n : Nat}, (∀ i, i < n → f i = g i) → crf r f n = crf r g n
  | 0, _ => rfl
  | n + 1, h => by rw [crf, crf, crf_congr fun i hi => h i (by omega), h n (by omega)]
/-- The bits of bytes. -/
def bitat (l : List UInt8) (p : Nat) : Bool := (l.getD (p / 8) 0).toNat.testBit (p % 8)
theorem byte_bits : ∀ x : Fin 256, bits4 (bits4 (0#32 ^^^ BitVec.ofNat 32 x.val)) = crf 0#32 (fun i => x.val.testBit i) 8 := by decide +kernel
theorem byteC_crf (r : BitVec 32) (x : UInt8) : byteC r x = crf r (fun i => x.toNat.testBit i) 8 := by
  have h1 := byte_bits ⟨x.toNat, x.toNat_lt⟩
  dsimp only at h1
  have h2 := crf_xor r 0#32 (fun _ => false) (fun i => x.toNat.testBit i) 8
  rw [BitVec.xor_zero] at h2
  rw [show (fun i => (false ^^ x.toNat.testBit i)) = fun i => x.toNat.testBit i by funext i; simp] at h2
  rw [h2, ← h1]
  unfold byteC
  rw [bits4_xor, bits4_xor, BitVec.zero_xor]
  congr 1
  simp [crf, bt, bits4]
theorem crc_crf (r : BitVec 32) (l : List UInt8) : ∀ n, n ≤ l.length → crc r (l.take n) = crf r (bitat l) (8 * n)
  | 0, _ => by simp [crc, crf]
  | n + 1, h => by
    rw [crc_take (by omega), crc_crf r l n (by omega), Nat.mul_succ, crf_add, byteC_crf]
    refine crf_congr fun i hi => ?_
    unfold bitat
    rw [show (8 * n + i) / 8 = n by omega, show (8 * n + i) % 8 = i by omega]
theorem crc_all (r : BitVec 32) (l : List UInt8) : crc r l = crf r (bitat l) (8 * l.length) := by
  rw [← crc_crf r l _ (Nat.le_refl _), List.take_length]
end Go.Proofs.Ytnddanaangolgaa.V
