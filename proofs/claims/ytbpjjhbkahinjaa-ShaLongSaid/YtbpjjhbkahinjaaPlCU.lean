/- Words of 32 and 64 bits (printed by a program of this repo). -/
import Derived.Test.YtbpjjhbkahinjaaPlVL
set_option linter.unusedSimpArgs false
set_option linter.unusedVariables false
namespace Go.Proofs.Ytbpjjhbkahinjaa.V
open Go.RowKit
theorem umin (w n : Nat) (a : Nat) (h : a < 2 ^ w) : a / 2 ^ (min n w) = a / 2 ^ n := by
  by_cases k : n ≤ w
  · rw [Nat.min_eq_left k]
  · rw [Nat.min_eq_right (by omega), Nat.div_eq_of_lt h, Nat.div_eq_of_lt (Nat.lt_of_lt_of_le h (Nat.pow_le_pow_right (by decide) (by omega)))]
theorem uminl (w n : Nat) (a : Nat) : (a * 2 ^ (min n w)) % 2 ^ w = (a * 2 ^ n) % 2 ^ w := by
  by_cases k : n ≤ w
  · rw [Nat.min_eq_left k]
  · rw [Nat.min_eq_right (by omega), Nat.mul_mod_left, show n = (n - w) + w by omega, Nat.pow_add, ← Nat.mul_assoc, Nat.mul_mod_left]
theorem w32 (n : Int) : IntKind.u32.wrap n = ((BitVec.ofInt 32 n).toNat : Int) := by
  rw [wrap_u32, BitVec.toNat_ofInt]; omega
theorem wn32 (n : Nat) : IntKind.u32.wrap (n : Int) = ((BitVec.ofNat 32 n).toNat : Int) := by
  rw [wrap_u32, BitVec.toNat_ofNat]; omega
theorem wb32 (x : BitVec 32) : IntKind.u32.wrap (x.toNat : Int) = (x.toNat : Int) := by
  have := x.isLt; rw [wrap_u32]; omega
theorem oi32 (x : BitVec 32) : BitVec.ofInt 32 (x.toNat : Int) = x := by simp
theorem uand32 (a b : Int) : pureV (.bin .and) [.int .u32 a, .int .u32 b] = some (.int .u32 ((BitVec.ofInt 32 a &&& BitVec.ofInt 32 b).toNat : Int)) := by
  rw [x_and]; exact congrArg (fun z => some (Value.int .u32 z)) (wb32 _)
theorem uor32 (a b : Int) : pureV (.bin .or) [.int .u32 a, .int .u32 b] = some (.int .u32 ((BitVec.ofInt 32 a ||| BitVec.ofInt 32 b).toNat : Int)) := by
  rw [x_or]; exact congrArg (fun z => some (Value.int .u32 z)) (wb32 _)
theorem uxor32 (a b : Int) : pureV (.bin .xor) [.int .u32 a, .int .u32 b] = some (.int .u32 ((BitVec.ofInt 32 a ^^^ BitVec.ofInt 32 b).toNat : Int)) := by
  rw [x_xor]; exact congrArg (fun z => some (Value.int .u32 z)) (wb32 _)
theorem uadd32 (a b : Int) : pureV (.bin .add) [.int .u32 a, .int .u32 b] = some (.int .u32 ((BitVec.ofInt 32 a + BitVec.ofInt 32 b).toNat : Int)) := by
  rw [x_add, w32, BitVec.ofInt_add]
theorem umul32 (a b : Int) : pureV (.bin .mul) [.int .u32 a, .int .u32 b] = some (.int .u32 ((BitVec.ofInt 32 a * BitVec.ofInt 32 b).toNat : Int)) := by
  rw [x_mul, w32, BitVec.ofInt_mul]
theorem ushr32 {y : IntKind} (a : BitVec 32) (n : Int) (h : 0 ≤ n) : pureV (.bin .shr) [.int .u32 (a.toNat : Int), .int y n] = some (.int .u32 ((a >>> n.toNat).toNat : Int)) := by
  rw [x_shr, if_neg (by omega), Int.fdiv_eq_ediv_of_nonneg _ (Int.le_of_lt (Int.pow_pos (by decide))), BitVec.toNat_ushiftRight, Nat.shiftRight_eq_div_pow, ← umin 32 n.toNat _ a.isLt]
  simp only [Int.natCast_ediv, Int.natCast_pow]; rfl
theorem ushl32 {y : IntKind} (a : BitVec 32) (n : Int) (h : 0 ≤ n) : pureV (.bin .shl) [.int .u32 (a.toNat : Int), .int y n] = some (.int .u32 ((a <<< n.toNat).toNat : Int)) := by
  rw [x_shl, if_neg (by omega), BitVec.toNat_shiftLeft, Nat.shiftLeft_eq, ← uminl 32 n.toNat]
  have e : ((a.toNat : Int) * 2 ^ (min n.toNat IntKind.u32.bits)) = ((a.toNat * 2 ^ (min n.toNat 32) : Nat) : Int) := by rw [Int.natCast_mul, Int.natCast_pow]; rfl
  rw [e, wn32, BitVec.toNat_ofNat]
theorem unot32 (a : BitVec 32) : pureV (.un .xor) [.int .u32 (a.toNat : Int)] = some (.int .u32 ((~~~a).toNat : Int)) := by
  show some (Value.int .u32 (IntKind.u32.wrap (BitVec.ofInt 32 4294967295 ^^^ BitVec.ofInt 32 (a.toNat : Int)).toNat)) = _
  rw [wb32, oi32, show BitVec.ofInt 32 4294967295 = BitVec.allOnes 32 from rfl, BitVec.allOnes_xor]
theorem w64 (n : Int) : IntKind.u64.wrap n = ((BitVec.ofInt 64 n).toNat : Int) := by
  rw [wrap_u64, BitVec.toNat_ofInt]; omega
theorem oi64 (x : BitVec 64) : BitVec.ofInt 64 (x.toNat : Int) = x := by simp
theorem umul64 (a b : Int) : pureV (.bin .mul) [.int .u64 a, .int .u64 b] = some (.int .u64 ((BitVec.ofInt 64 a * BitVec.ofInt 64 b).toNat : Int)) := by
  rw [x_mul, w64, BitVec.ofInt_mul]
theorem ushr64 {y : IntKind} (a : BitVec 64) (n : Int) (h : 0 ≤ n) : pureV (.bin .shr) [.int .u64 (a.toNat : Int), .int y n] = some (.int .u64 ((a >>> n.toNat).toNat : Int)) := by
  rw [x_shr, if_neg (by omega), Int.fdiv_eq_ediv_of_nonneg _ (Int.le_of_lt (Int.pow_pos (by decide))), BitVec.toNat_ushiftRight, Nat.shiftRight_eq_div_pow, ← umin 64 n.toNat _ a.isLt]
  simp only [Int.natCast_ediv, Int.natCast_pow]; rfl
section
variable {P : Program} {E : Env} {K : St → Prop} {r : List Stp} {dd : Option Nat} {L : SL} {A : AL} {G : GH}
theorem s_and32 {d : Nat} {xs : List Operand} {a b : BitVec 32} (h : vops P E r K (S (.set d (.int .u32 ((a &&& b).toNat : Int)) L) A G)) (hx : evs L xs = some [.int .u32 (a.toNat : Int), .int .u32 (b.toNat : Int)] := by with_unfolding_all rfl) : vops P E (⟨none, dd, .pure d (.bin .and) xs⟩ :: r) K (S L A G) := o_pure hx (by rw [uand32, oi32, oi32]) h
theorem s_or32 {d : Nat} {xs : List Operand} {a b : BitVec 32} (h : vops P E r K (S (.set d (.int .u32 ((a ||| b).toNat : Int)) L) A G)) (hx : evs L xs = some [.int .u32 (a.toNat : Int), .int .u32 (b.toNat : Int)] := by with_unfolding_all rfl) : vops P E (⟨none, dd, .pure d (.bin .or) xs⟩ :: r) K (S L A G) := o_pure hx (by rw [uor32, oi32, oi32]) h
theorem s_xor32 {d : Nat} {xs : List Operand} {a b : BitVec 32} (h : vops P E r K (S (.set d (.int .u32 ((a ^^^ b).toNat : Int)) L) A G)) (hx : evs L xs = some [.int .u32 (a.toNat : Int), .int .u32 (b.toNat : Int)] := by with_unfolding_all rfl) : vops P E (⟨none, dd, .pure d (.bin .xor) xs⟩ :: r) K (S L A G) := o_pure hx (by rw [uxor32, oi32, oi32]) h
theorem s_add32 {d : Nat} {xs : List Operand} {a b : BitVec 32} (h : vops P E r K (S (.set d (.int .u32 ((a + b).toNat : Int)) L) A G)) (hx : evs L xs = some [.int .u32 (a.toNat : Int), .int .u32 (b.toNat : Int)] := by with_unfolding_all rfl) : vops P E (⟨none, dd, .pure d (.bin .add) xs⟩ :: r) K (S L A G) := o_pure hx (by rw [uadd32, oi32, oi32]) h
theorem s_mulr32 {d : Nat} {xs : List Operand} {a : BitVec 32} {b : Int} (h : vops P E r K (S (.set d (.int .u32 ((a * BitVec.ofInt 32 b).toNat : Int)) L) A G)) (hx : evs L xs = some [.int .u32 (a.toNat : Int), .int .u32 b] := by with_unfolding_all rfl) : vops P E (⟨none, dd, .pure d (.bin .mul) xs⟩ :: r) K (S L A G) := o_pure hx (by rw [umul32, oi32]) h
theorem s_shr32 {d : Nat} {xs : List Operand} {y : IntKind} {a : BitVec 32} {n : Int} (h : vops P E r K (S (.set d (.int .u32 ((a >>> n.toNat).toNat : Int)) L) A G)) (hx : evs L xs = some [.int .u32 (a.toNat : Int), .int y n] := by with_unfolding_all rfl) (hn : 0 ≤ n := by omega) : vops P E (⟨none, dd, .pure d (.bin .shr) xs⟩ :: r) K (S L A G) := o_pure hx (ushr32 a n hn) h
theorem s_shl32 {d : Nat} {xs : List Operand} {y : IntKind} {a : BitVec 32} {n : Int} (h : vops P E r K (S (.set d (.int .u32 ((a <<< n.toNat).toNat : Int)) L) A G)) (hx : evs L xs = some [.int .u32 (a.toNat : Int), .int y n] := by with_unfolding_all rfl) (hn : 0 ≤ n := by omega) : vops P E (⟨none, dd, .pure d (.bin .shl) xs⟩ :: r) K (S L A G) := o_pure hx (ushl32 a n hn) h
theorem s_not32 {d : Nat} {xs : List Operand} {a : BitVec 32} (h : vops P E r K (S (.set d (.int .u32 ((~~~a).toNat : Int)) L) A G)) (hx : evs L xs = some [.int .u32 (a.toNat : Int)] := by with_unfolding_all rfl) : vops P E (⟨none, dd, .pure d (.un .xor) xs⟩ :: r) K (S L A G) := o_pure hx (unot32 a) h
theorem s_c8_32 {d : Nat} {xs : List Operand} {x : UInt8} (h : vops P E r K (S (.set d (.int .u32 ((BitVec.ofNat 32 x.toNat).toNat : Int)) L) A G)) (hx : evs L xs = some [.int .u8 (x.toNat : Int)] := by with_unfolding_all rfl) : vops P E (⟨none, dd, .pure d (.convI .u32) xs⟩ :: r) K (S L A G) := o_pure hx (by rw [x_convI, wn32]) h
theorem s_to8_32 {d : Nat} {xs : List Operand} {a : BitVec 32} (h : vops P E r K (S (.set d (bv (UInt8.ofNat a.toNat)) L) A G)) (hx : evs L xs = some [.int .u32 (a.toNat : Int)] := by with_unfolding_all rfl) : vops P E (⟨none, dd, .pure d (.convI .u8) xs⟩ :: r) K (S L A G) := o_pure hx (by rw [x_convI, wrap8, ofInt_nat]) h
theorem s_mulr64 {d : Nat} {xs : List Operand} {a : BitVec 64} {b : Int} (h : vops P E r K (S (.set d (.int .u64 ((a * BitVec.ofInt 64 b).toNat : Int)) L) A G)) (hx : evs L xs = some [.int .u64 (a.toNat : Int), .int .u64 b] := by with_unfolding_all rfl) : vops P E (⟨none, dd, .pure d (.bin .mul) xs⟩ :: r) K (S L A G) := o_pure hx (by rw [umul64, oi64]) h
theorem s_shr64 {d : Nat} {xs : List Operand} {y : IntKind} {a : BitVec 64} {n : Int} (h : vops P E r K (S (.set d (.int .u64 ((a >>> n.toNat).toNat : Int)) L) A G)) (hx : evs L xs = some [.int .u64 (a.toNat : Int), .int y n] := by with_unfolding_all rfl) (hn : 0 ≤ n := by omega) : vops P E (⟨none, dd, .pure d (.bin .shr) xs⟩ :: r) K (S L A G) := o_pure hx (ushr64 a n hn) h
theorem s_ci_64 {d : Nat} {xs : List Operand} {n : Int} (h : vops P E r K (S (.set d (.int .u64 ((BitVec.ofInt 64 n).toNat : Int)) L) A G)) (hx : evs L xs = some [.int .i64 n] := by with_unfolding_all rfl) : vops P E (⟨none, dd, .pure d (.convI .u64) xs⟩ :: r) K (S L A G) := o_pure hx (by rw [x_convI, w64]) h
theorem s_to8_64 {d : Nat} {xs : List Operand} {a : BitVec 64} (h : vops P E r K (S (.set d (bv (UInt8.ofNat a.toNat)) L) A G)) (hx : evs L xs = some [.int .u64 (a.toNat : Int)] := by with_unfolding_all rfl) : vops P E (⟨none, dd, .pure d (.convI .u8) xs⟩ :: r) K (S L A G) := o_pure hx (by rw [x_convI, wrap8, ofInt_nat]) h
end
end Go.Proofs.Ytbpjjhbkahinjaa.V
