/- The sum of bytes: plain. -/
import Derived.Test.YtnddanaangolgaaPtCU
set_option linter.unusedSimpArgs false
set_option linter.unusedVariables false
namespace Go.Proofs.Ytnddanaangolgaa.V
def bit1 (r : BitVec 32) : BitVec 32 := (r >>> 1) ^^^ (if r.getLsbD 0 then 3988292384#32 else 0#32)
def bits4 (r : BitVec 32) : BitVec 32 := bit1 (bit1 (bit1 (bit1 r)))
theorem bit1_xor (a b : BitVec 32) : bit1 (a ^^^ b) = bit1 a ^^^ bit1 b := by
  unfold bit1
  rw [BitVec.ushiftRight_xor_distrib, BitVec.getLsbD_xor]
  generalize a >>> 1 = x
  generalize b >>> 1 = y
  have e : (x ^^^ 3988292384#32) ^^^ (y ^^^ 3988292384#32) = x ^^^ y ^^^ (3988292384#32 ^^^ 3988292384#32) := by ac_rfl
  cases a.getLsbD 0 <;> cases b.getLsbD 0
  · simp
  · simp only [Bool.false_bne, Bool.xor_true, Bool.not_false, if_true, Bool.false_eq_true, if_false, Bool.false_xor, Bool.true_xor, Bool.xor_false, BitVec.xor_zero]; ac_rfl
  · simp only [Bool.false_bne, Bool.xor_true, Bool.not_false, if_true, Bool.false_eq_true, if_false, Bool.false_xor, Bool.true_xor, Bool.xor_false, BitVec.xor_zero]; ac_rfl
  · simp only [Bool.xor_self, Bool.false_eq_true, if_false, if_true]; rw [e, BitVec.xor_self]
theorem bits4_xor (a b : BitVec 32) : bits4 (a ^^^ b) = bits4 a ^^^ bits4 b := by
  unfold bits4; rw [bit1_xor, bit1_xor, bit1_xor, bit1_xor]
theorem bit1_even {a : BitVec 32} (h : a.getLsbD 0 = false) : bit1 a = a >>> 1 := by
  unfold bit1; rw [h]; simp
theorem bits4_low {a : BitVec 32} (h : ∀ i, i < 4 → a.getLsbD i = false) : bits4 a = a >>> 4 := by
  have s1 : bit1 a = a >>> 1 := bit1_even (h 0 (by omega))
  have s2 : bit1 (a >>> 1) = a >>> 1 >>> 1 := bit1_even (by rw [BitVec.getLsbD_ushiftRight]; exact h 1 (by omega))
  have s3 : bit1 (a >>> 1 >>> 1) = a >>> 1 >>> 1 >>> 1 := bit1_even (by rw [BitVec.getLsbD_ushiftRight, BitVec.getLsbD_ushiftRight]; exact h 2 (by omega))
  have s4 : bit1 (a >>> 1 >>> 1 >>> 1) = a >>> 1 >>> 1 >>> 1 >>> 1 := bit1_even (by rw [BitVec.getLsbD_ushiftRight, BitVec.getLsbD_ushiftRight, BitVec.getLsbD_ushiftRight]; exact h 3 (by omega))
  unfold bits4
  rw [s1, s2, s3, s4, ← BitVec.shiftRight_add, ← BitVec.shiftRight_add, ← BitVec.shiftRight_add]
theorem split4 (y : BitVec 32) : y = (y &&& ~~~(15#32)) ^^^ (y &&& 15#32) := by
  ext i hi
  simp only [BitVec.getElem_xor, BitVec.getElem_and, BitVec.getElem_not]
  cases y[i] <;> cases (15#32)[i] <;> rfl
theorem bits4_split (y : BitVec 32) : bits4 y = (y >>> 4) ^^^ bits4 (y &&& 15#32) := by
  have h : ∀ i, i < 4 → (y &&& ~~~(15#32)).getLsbD i = false := by
    intro i hi
    rcases i with _ | _ | _ | _ | i
    · simp
    · simp
    · simp
    · simp
    · omega
  have e : (y &&& ~~~(15#32)) >>> 4 = y >>> 4 := by
    ext i hi
    simp only [BitVec.getElem_ushiftRight, BitVec.getLsbD_and, BitVec.getLsbD_not]
    by_cases h32 : 4 + i < 32
    · have : (15#32).getLsbD (4 + i) = false := by
        have : ∀ j : Fin 32, 4 ≤ j.val → (15#32).getLsbD j.val = false := by decide
        exact this ⟨4 + i, h32⟩ (by simp)
      simp only [this, h32, Bool.not_false, Bool.and_true, decide_true]
    · have : y.getLsbD (4 + i) = false := BitVec.getLsbD_of_ge _ _ (by omega)
      simp [this]
  conv => lhs; rw [split4 y]
  rw [bits4_xor, bits4_low h, e]
/-- A byte is taken into the sum. -/
def byteC (r : BitVec 32) (x : UInt8) : BitVec 32 := bits4 (bits4 (r ^^^ BitVec.ofNat 32 x.toNat))
def nib (r : BitVec 32) (n : Nat) : BitVec 32 := (r >>> 4) ^^^ bits4 ((r ^^^ BitVec.ofNat 32 n) &&& 15#32)
theorem nib_two (r : BitVec 32) (x : UInt8) : nib (nib r x.toNat) (x.toNat / 16) = byteC r x := by
  have hx := x.toNat_lt
  have e1 : BitVec.ofNat 32 x.toNat >>> 4 = BitVec.ofNat 32 (x.toNat / 16) := by
    apply BitVec.eq_of_toNat_eq
    simp only [BitVec.toNat_ushiftRight, BitVec.toNat_ofNat, Nat.shiftRight_eq_div_pow]
    omega
  have e2 : BitVec.ofNat 32 (x.toNat / 16) >>> 4 = 0#32 := by
    apply BitVec.eq_of_toNat_eq
    simp only [BitVec.toNat_ushiftRight, BitVec.toNat_ofNat, Nat.shiftRight_eq_div_pow]
    omega
  have h1 : bits4 (r ^^^ BitVec.ofNat 32 x.toNat) = nib r x.toNat ^^^ BitVec.ofNat 32 (x.toNat / 16) := by
    rw [bits4_split, BitVec.ushiftRight_xor_distrib, e1]
    unfold nib
    rw [BitVec.xor_assoc, BitVec.xor_assoc, BitVec.xor_comm (BitVec.ofNat 32 (x.toNat / 16))]
  unfold byteC
  rw [h1, bits4_split, BitVec.ushiftRight_xor_distrib, e2, BitVec.xor_zero]
  rfl
/-- The sum's register behind bytes. -/
def crc (r : BitVec 32) (l : List UInt8) : BitVec 32 := l.foldl byteC r
theorem crc_take {r : BitVec 32} {l : List UInt8} {i : Nat} (h : i < l.length) : crc r (l.take (i + 1)) = byteC (crc r (l.take i)) (l.getD i 0) := by
  rw [List.take_succ_eq_append_getElem h, crc, List.foldl_append, List.getD_eq_getElem?_getD, List.getElem?_eq_getElem h]; rfl
theorem crc_append (r : BitVec 32) (a b : List UInt8) : crc r (a ++ b) = crc (crc r a) b := by unfold crc; rw [List.foldl_append]
def sumB (l : List UInt8) : BitVec 32 := ~~~(crc (BitVec.allOnes 32) l)
end Go.Proofs.Ytnddanaangolgaa.V
