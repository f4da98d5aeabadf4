/- Words of 32 and 64 bits (printed by a program of this repo). -/
import Derived.Test.YtnddanaangolgaaVL
set_option linter.unusedSimpArgs false
set_option linter.unusedVariables false
namespace Go.Proofs.Ytnddanaangolgaa.V
open Go.RowKit
theorem umin (w n : Nat) (a : Nat) (h : a < 2 ^ w) : a / 2 ^ (min n w) = a / 2 ^ n := by
  by_cases k : n ≤ w
  · rw [Nat.min_eq_left k]
  · rw [Nat.min_eq_right (by omega), Nat.div_eq_of_lt h, Nat.div_eq_of_lt (Nat.lt_of_lt_of_le h (Nat.pow_le_pow_right (by decide) (by omega)))]
theorem uminl (w n : Nat) (a : Nat) : (a * 2 ^ (min n w)) % 2 ^ w = (a * 2 ^ n) % 2 ^ w := by
  by_cases k : n ≤ w
  · rw [Nat.min_eq_left k]
  · rw [Nat.min_eq_right (by omega), Nat.mul_mod_left, show n = (n - w) + w by omega, Nat.pow_add, ← Nat.mul_assoc, Nat.mul_mod_left]
theorem w32 (n : Int) : IntKind.u32.wrap n = ((BitVec.ofInt 32 n).toNat : Int) := by
  rw [wrap_u32, BitVec.toNat_ofInt]; omega
theorem wn32 (n : Nat) : IntKind.u32.wrap (n : Int) = ((BitVec.ofNat 32 n).toNat : Int) := by
  rw [wrap_u32, BitVec.toNat_ofNat]; omega
theorem wb32 (x : BitVec 32) : IntKind.u32.wrap (x.toNat : Int) = (x.toNat : Int) := by
  have := x.isLt; rw [wrap_u32]; omega
theorem oi32 (x : BitVec 32) : BitVec.ofInt 32 (x.toNat : Int) = x := by simp
theorem uand32 (a b : Int) : pureV (.bin .and) [.int .u32 a, .int .u32 b] = some (.int .u32 ((BitVec.ofInt 32 a &&& BitVec.ofInt 32 b).toNat : Int)) := by
  rw [x_and]; exact congrArg (fun z => some (Value.int .u32 z)) (wb32 _)
theorem uor32 (a b : Int) : pureV (.bin .or) [.int .u32 a, .int .u32 b] = some (.int .u32 ((BitVec.ofInt 32 a ||| BitVec.ofInt 32 b).toNat : Int)) := by
  rw [x_or]; exact congrArg (fun z => some (Value.int .u32 z)) (wb32 _)
theorem uxor32 (a b : Int) : pureV (.bin .xor) [.int .u32 a, .int .u32 b] = some (.int .u32 ((BitVec.ofInt 32 a ^^^ BitVec.ofInt 32 b).toNat : Int)) := by
  rw [x_xor]; exact congrArg (fun z => some (Value.int .u32 z)) (wb32 _)
theorem uadd32 (a b : Int) : pureV (.bin .add) [.int .u32 a, .int .u32 b] = some (.int .u32 ((BitVec.ofInt 32 a + BitVec.ofInt 32 b).toNat : Int)) := by
  rw [x_add, w32, BitVec.ofInt_add]
theorem usub32 (a b : Int) : pureV (.bin .sub) [.int .u32 a, .int .u32 b] = some (.int .u32 ((BitVec.ofInt 32 a - BitVec.ofInt 32 b).toNat : Int)) := by
  rw [x_sub, w32, Int.sub_eq_add_neg, BitVec.ofInt_add, BitVec.ofInt_neg, ← BitVec.sub_eq_add_neg]
theorem umul32 (a b : Int) : pureV (.bin .mul) [.int .u32 a, .int .u32 b] = some (.int .u32 ((BitVec.ofInt 32 a * BitVec.ofInt 32 b).toNat : Int)) := by
  rw [x_mul, w32, BitVec.ofInt_mul]
theorem ushr32 {y : IntKind} (a : BitVec 32) (n : Int) (h : 0 ≤ n) : pureV (.bin .shr) [.int .u32 (a.toNat : Int), .int y n] = some (.int .u32 ((a >>> n.toNat).toNat : Int)) := by
  rw [x_shr, if_neg (by omega), Int.fdiv_eq_ediv_of_nonneg _ (Int.le_of_lt (Int.pow_pos (by decide))), BitVec.toNat_ushiftRight, Nat.shiftRight_eq_div_pow, ← umin 32 n.toNat _ a.isLt]
  simp only [Int.natCast_ediv, Int.natCast_pow]; rfl
theorem ushl32 {y : IntKind} (a : BitVec 32) (n : Int) (h : 0 ≤ n) : pureV (.bin .shl) [.int .u32 (a.toNat : Int), .int y n] = some (.int .u32 ((a <<< n.toNat).toNat : Int)) := by
  rw [x_shl, if_neg (by omega), BitVec.toNat_shiftLeft, Nat.shiftLeft_eq, ← uminl 32 n.toNat]
  have e : ((a.toNat : Int) * 2 ^ (min n.toNat IntKind.u32.bits)) = ((a.toNat * 2 ^ (min n.toNat 32) : Nat) : Int) := by rw [Int.natCast_mul, Int.natCast_pow]; rfl
  rw [e, wn32, BitVec.toNat_ofNat]
theorem uquo32 (a b : BitVec 32) (h : b ≠ 0#32) : pureV (.bin .quo) [.int .u32 (a.toNat : Int), .int .u32 (b.toNat : Int)] = some (.int .u32 ((a / b).toNat : Int)) := by
  have hb : b.toNat ≠ 0 := fun e => h (BitVec.eq_of_toNat_eq (by rw [e]; rfl))
  rw [x_quo, if_neg (by omega), Int.tdiv_eq_ediv_of_nonneg (by omega), ← Int.natCast_ediv, ← BitVec.toNat_udiv, wb32]
theorem urem32 (a b : BitVec 32) (h : b ≠ 0#32) : pureV (.bin .rem) [.int .u32 (a.toNat : Int), .int .u32 (b.toNat : Int)] = some (.int .u32 ((a % b).toNat : Int)) := by
  have hb : b.toNat ≠ 0 := fun e => h (BitVec.eq_of_toNat_eq (by rw [e]; rfl))
  rw [x_rem, if_neg (by omega), Int.tmod_eq_emod_of_nonneg (by omega), ← Int.natCast_emod, ← BitVec.toNat_umod]
theorem unot32 (a : BitVec 32) : pureV (.un .xor) [.int .u32 (a.toNat : Int)] = some (.int .u32 ((~~~a).toNat : Int)) := by
  show some (Value.int .u32 (IntKind.u32.wrap (BitVec.ofInt 32 4294967295 ^^^ BitVec.ofInt 32 (a.toNat : Int)).toNat)) = _
  rw [wb32, oi32, show BitVec.ofInt 32 4294967295 = BitVec.allOnes 32 from rfl, BitVec.allOnes_xor]
theorem ueq32 (a b : BitVec 32) : pureV (.bin .eql) [.int .u32 (a.toNat : Int), .int .u32 (b.toNat : Int)] = some (.bool (a == b)) := by
  rw [x_eql]; refine congrArg (fun z => some (Value.bool z)) ?_
  rw [Bool.eq_iff_iff, beq_iff_eq, beq_iff_eq]; constructor
  · intro h; exact BitVec.eq_of_toNat_eq (by omega)
  · intro h; rw [h]
theorem une32 (a b : BitVec 32) : pureV (.bin .neq) [.int .u32 (a.toNat : Int), .int .u32 (b.toNat : Int)] = some (.bool (a != b)) := by
  rw [x_neq]; refine congrArg (fun z => some (Value.bool z)) ?_
  rw [Bool.eq_iff_iff, bne_iff_ne, bne_iff_ne, ne_eq, ne_eq]; refine not_congr ?_; constructor
  · intro h; exact BitVec.eq_of_toNat_eq (by omega)
  · intro h; rw [h]
theorem w64 (n : Int) : IntKind.u64.wrap n = ((BitVec.ofInt 64 n).toNat : Int) := by
  rw [wrap_u64, BitVec.toNat_ofInt]; omega
theorem wn64 (n : Nat) : IntKind.u64.wrap (n : Int) = ((BitVec.ofNat 64 n).toNat : Int) := by
  rw [wrap_u64, BitVec.toNat_ofNat]; omega
theorem wb64 (x : BitVec 64) : IntKind.u64.wrap (x.toNat : Int) = (x.toNat : Int) := by
  have := x.isLt; rw [wrap_u64]; omega
theorem oi64 (x : BitVec 64) : BitVec.ofInt 64 (x.toNat : Int) = x := by simp
theorem uand64 (a b : Int) : pureV (.bin .and) [.int .u64 a, .int .u64 b] = some (.int .u64 ((BitVec.ofInt 64 a &&& BitVec.ofInt 64 b).toNat : Int)) := by
  rw [x_and]; exact congrArg (fun z => some (Value.int .u64 z)) (wb64 _)
theorem uor64 (a b : Int) : pureV (.bin .or) [.int .u64 a, .int .u64 b] = some (.int .u64 ((BitVec.ofInt 64 a ||| BitVec.ofInt 64 b).toNat : Int)) := by
  rw [x_or]; exact congrArg (fun z => some (Value.int .u64 z)) (wb64 _)
theorem uxor64 (a b : Int) : pureV (.bin .xor) [.int .u64 a, .int .u64 b] = some (.int .u64 ((BitVec.ofInt 64 a ^^^ BitVec.ofInt 64 b).toNat : Int)) := by
  rw [x_xor]; exact congrArg (fun z => some (Value.int .u64 z)) (wb64 _)
theorem uadd64 (a b : Int) : pureV (.bin .add) [.int .u64 a, .int .u64 b] = some (.int .u64 ((BitVec.ofInt 64 a + BitVec.ofInt 64 b).toNat : Int)) := by
  rw [x_add, w64, BitVec.ofInt_add]
theorem usub64 (a b : Int) : pureV (.bin .sub) [.int .u64 a, .int .u64 b] = some (.int .u64 ((BitVec.ofInt 64 a - BitVec.ofInt 64 b).toNat : Int)) := by
  rw [x_sub, w64, Int.sub_eq_add_neg, BitVec.ofInt_add, BitVec.ofInt_neg, ← BitVec.sub_eq_add_neg]
theorem umul64 (a b : Int) : pureV (.bin .mul) [.int .u64 a, .int .u64 b] = some (.int .u64 ((BitVec.ofInt 64 a * BitVec.ofInt 64 b).toNat : Int)) := by
  rw [x_mul, w64, BitVec.ofInt_mul]
theorem ushr64 {y : IntKind} (a : BitVec 64) (n : Int) (h : 0 ≤ n) : pureV (.bin .shr) [.int .u64 (a.toNat : Int), .int y n] = some (.int .u64 ((a >>> n.toNat).toNat : Int)) := by
  rw [x_shr, if_neg (by omega), Int.fdiv_eq_ediv_of_nonneg _ (Int.le_of_lt (Int.pow_pos (by decide))), BitVec.toNat_ushiftRight, Nat.shiftRight_eq_div_pow, ← umin 64 n.toNat _ a.isLt]
  simp only [Int.natCast_ediv, Int.natCast_pow]; rfl
theorem ushl64 {y : IntKind} (a : BitVec 64) (n : Int) (h : 0 ≤ n) : pureV (.bin .shl) [.int .u64 (a.toNat : Int), .int y n] = some (.int .u64 ((a <<< n.toNat).toNat : Int)) := by
  rw [x_shl, if_neg (by omega), BitVec.toNat_shiftLeft, Nat.shiftLeft_eq, ← uminl 64 n.toNat]
  have e : ((a.toNat : Int) * 2 ^ (min n.toNat IntKind.u64.bits)) = ((a.toNat * 2 ^ (min n.toNat 64) : Nat) : Int) := by rw [Int.natCast_mul, Int.natCast_pow]; rfl
  rw [e, wn64, BitVec.toNat_ofNat]
theorem uquo64 (a b : BitVec 64) (h : b ≠ 0#64) : pureV (.bin .quo) [.int .u64 (a.toNat : Int), .int .u64 (b.toNat : Int)] = some (.int .u64 ((a / b).toNat : Int)) := by
  have hb : b.toNat ≠ 0 := fun e => h (BitVec.eq_of_toNat_eq (by rw [e]; rfl))
  rw [x_quo, if_neg (by omega), Int.tdiv_eq_ediv_of_nonneg (by omega), ← Int.natCast_ediv, ← BitVec.toNat_udiv, wb64]
theorem urem64 (a b : BitVec 64) (h : b ≠ 0#64) : pureV (.bin .rem) [.int .u64 (a.toNat : Int), .int .u64 (b.toNat : Int)] = some (.int .u64 ((a % b).toNat : Int)) := by
  have hb : b.toNat ≠ 0 := fun e => h (BitVec.eq_of_toNat_eq (by rw [e]; rfl))
  rw [x_rem, if_neg (by omega), Int.tmod_eq_emod_of_nonneg (by omega), ← Int.natCast_emod, ← BitVec.toNat_umod]
theorem unot64 (a : BitVec 64) : pureV (.un .xor) [.int .u64 (a.toNat : Int)] = some (.int .u64 ((~~~a).toNat : Int)) := by
  show some (Value.int .u64 (IntKind.u64.wrap (BitVec.ofInt 64 18446744073709551615 ^^^ BitVec.ofInt 64 (a.toNat : Int)).toNat)) = _
  rw [wb64, oi64, show BitVec.ofInt 64 18446744073709551615 = BitVec.allOnes 64 from rfl, BitVec.allOnes_xor]
theorem ueq64 (a b : BitVec 64) : pureV (.bin .eql) [.int .u64 (a.toNat : Int), .int .u64 (b.toNat : Int)] = some (.bool (a == b)) := by
  rw [x_eql]; refine congrArg (fun z => some (Value.bool z)) ?_
  rw [Bool.eq_iff_iff, beq_iff_eq, beq_iff_eq]; constructor
  · intro h; exact BitVec.eq_of_toNat_eq (by omega)
  · intro h; rw [h]
theorem une64 (a b : BitVec 64) : pureV (.bin .neq) [.int .u64 (a.toNat : Int), .int .u64 (b.toNat : Int)] = some (.bool (a != b)) := by
  rw [x_neq]; refine congrArg (fun z => some (Value.bool z)) ?_
  rw [Bool.eq_iff_iff, bne_iff_ne, bne_iff_ne, ne_eq, ne_eq]; refine not_congr ?_; constructor
  · intro h; exact BitVec.eq_of_toNat_eq (by omega)
  · intro h; rw [h]
section
variable {P : Program} {E : Env} {K : St → Prop} {r : List Stp} {dd : Option Nat} {L : SL} {A : AL} {G : GH}
theorem s_and32 {d : Nat} {xs : List Operand} {a b : BitVec 32} (h : vops P E r K (S (.set d (.int .u32 ((a &&& b).toNat : Int)) L) A G)) (hx : evs L xs = some [.int .u32 (a.toNat : Int), .int .u32 (b.toNat : Int)] := by with_unfolding_all rfl) : vops P E (⟨none, dd, .pure d (.bin .and) xs⟩ :: r) K (S L A G) := o_pure hx (by rw [uand32, oi32, oi32]) h
theorem s_andr32 {d : Nat} {xs : List Operand} {a : BitVec 32} {b : Int} (h : vops P E r K (S (.set d (.int .u32 ((a &&& BitVec.ofInt 32 b).toNat : Int)) L) A G)) (hx : evs L xs = some [.int .u32 (a.toNat : Int), .int .u32 b] := by with_unfolding_all rfl) : vops P E (⟨none, dd, .pure d (.bin .and) xs⟩ :: r) K (S L A G) := o_pure hx (by rw [uand32, oi32]) h
theorem s_andl32 {d : Nat} {xs : List Operand} {a : Int} {b : BitVec 32} (h : vops P E r K (S (.set d (.int .u32 ((BitVec.ofInt 32 a &&& b).toNat : Int)) L) A G)) (hx : evs L xs = some [.int .u32 a, .int .u32 (b.toNat : Int)] := by with_unfolding_all rfl) : vops P E (⟨none, dd, .pure d (.bin .and) xs⟩ :: r) K (S L A G) := o_pure hx (by rw [uand32, oi32]) h
theorem s_or32 {d : Nat} {xs : List Operand} {a b : BitVec 32} (h : vops P E r K (S (.set d (.int .u32 ((a ||| b).toNat : Int)) L) A G)) (hx : evs L xs = some [.int .u32 (a.toNat : Int), .int .u32 (b.toNat : Int)] := by with_unfolding_all rfl) : vops P E (⟨none, dd, .pure d (.bin .or) xs⟩ :: r) K (S L A G) := o_pure hx (by rw [uor32, oi32, oi32]) h
theorem s_orr32 {d : Nat} {xs : List Operand} {a : BitVec 32} {b : Int} (h : vops P E r K (S (.set d (.int .u32 ((a ||| BitVec.ofInt 32 b).toNat : Int)) L) A G)) (hx : evs L xs = some [.int .u32 (a.toNat : Int), .int .u32 b] := by with_unfolding_all rfl) : vops P E (⟨none, dd, .pure d (.bin .or) xs⟩ :: r) K (S L A G) := o_pure hx (by rw [uor32, oi32]) h
theorem s_orl32 {d : Nat} {xs : List Operand} {a : Int} {b : BitVec 32} (h : vops P E r K (S (.set d (.int .u32 ((BitVec.ofInt 32 a ||| b).toNat : Int)) L) A G)) (hx : evs L xs = some [.int .u32 a, .int .u32 (b.toNat : Int)] := by with_unfolding_all rfl) : vops P E (⟨none, dd, .pure d (.bin .or) xs⟩ :: r) K (S L A G) := o_pure hx (by rw [uor32, oi32]) h
theorem s_xor32 {d : Nat} {xs : List Operand} {a b : BitVec 32} (h : vops P E r K (S (.set d (.int .u32 ((a ^^^ b).toNat : Int)) L) A G)) (hx : evs L xs = some [.int .u32 (a.toNat : Int), .int .u32 (b.toNat : Int)] := by with_unfolding_all rfl) : vops P E (⟨none, dd, .pure d (.bin .xor) xs⟩ :: r) K (S L A G) := o_pure hx (by rw [uxor32, oi32, oi32]) h
theorem s_xorr32 {d : Nat} {xs : List Operand} {a : BitVec 32} {b : Int} (h : vops P E r K (S (.set d (.int .u32 ((a ^^^ BitVec.ofInt 32 b).toNat : Int)) L) A G)) (hx : evs L xs = some [.int .u32 (a.toNat : Int), .int .u32 b] := by with_unfolding_all rfl) : vops P E (⟨none, dd, .pure d (.bin .xor) xs⟩ :: r) K (S L A G) := o_pure hx (by rw [uxor32, oi32]) h
theorem s_xorl32 {d : Nat} {xs : List Operand} {a : Int} {b : BitVec 32} (h : vops P E r K (S (.set d (.int .u32 ((BitVec.ofInt 32 a ^^^ b).toNat : Int)) L) A G)) (hx : evs L xs = some [.int .u32 a, .int .u32 (b.toNat : Int)] := by with_unfolding_all rfl) : vops P E (⟨none, dd, .pure d (.bin .xor) xs⟩ :: r) K (S L A G) := o_pure hx (by rw [uxor32, oi32]) h
theorem s_add32 {d : Nat} {xs : List Operand} {a b : BitVec 32} (h : vops P E r K (S (.set d (.int .u32 ((a + b).toNat : Int)) L) A G)) (hx : evs L xs = some [.int .u32 (a.toNat : Int), .int .u32 (b.toNat : Int)] := by with_unfolding_all rfl) : vops P E (⟨none, dd, .pure d (.bin .add) xs⟩ :: r) K (S L A G) := o_pure hx (by rw [uadd32, oi32, oi32]) h
theorem s_addr32 {d : Nat} {xs : List Operand} {a : BitVec 32} {b : Int} (h : vops P E r K (S (.set d (.int .u32 ((a + BitVec.ofInt 32 b).toNat : Int)) L) A G)) (hx : evs L xs = some [.int .u32 (a.toNat : Int), .int .u32 b] := by with_unfolding_all rfl) : vops P E (⟨none, dd, .pure d (.bin .add) xs⟩ :: r) K (S L A G) := o_pure hx (by rw [uadd32, oi32]) h
theorem s_addl32 {d : Nat} {xs : List Operand} {a : Int} {b : BitVec 32} (h : vops P E r K (S (.set d (.int .u32 ((BitVec.ofInt 32 a + b).toNat : Int)) L) A G)) (hx : evs L xs = some [.int .u32 a, .int .u32 (b.toNat : Int)] := by with_unfolding_all rfl) : vops P E (⟨none, dd, .pure d (.bin .add) xs⟩ :: r) K (S L A G) := o_pure hx (by rw [uadd32, oi32]) h
theorem s_sub32 {d : Nat} {xs : List Operand} {a b : BitVec 32} (h : vops P E r K (S (.set d (.int .u32 ((a - b).toNat : Int)) L) A G)) (hx : evs L xs = some [.int .u32 (a.toNat : Int), .int .u32 (b.toNat : Int)] := by with_unfolding_all rfl) : vops P E (⟨none, dd, .pure d (.bin .sub) xs⟩ :: r) K (S L A G) := o_pure hx (by rw [usub32, oi32, oi32]) h
theorem s_subr32 {d : Nat} {xs : List Operand} {a : BitVec 32} {b : Int} (h : vops P E r K (S (.set d (.int .u32 ((a - BitVec.ofInt 32 b).toNat : Int)) L) A G)) (hx : evs L xs = some [.int .u32 (a.toNat : Int), .int .u32 b] := by with_unfolding_all rfl) : vops P E (⟨none, dd, .pure d (.bin .sub) xs⟩ :: r) K (S L A G) := o_pure hx (by rw [usub32, oi32]) h
theorem s_subl32 {d : Nat} {xs : List Operand} {a : Int} {b : BitVec 32} (h : vops P E r K (S (.set d (.int .u32 ((BitVec.ofInt 32 a - b).toNat : Int)) L) A G)) (hx : evs L xs = some [.int .u32 a, .int .u32 (b.toNat : Int)] := by with_unfolding_all rfl) : vops P E (⟨none, dd, .pure d (.bin .sub) xs⟩ :: r) K (S L A G) := o_pure hx (by rw [usub32, oi32]) h
theorem s_mul32 {d : Nat} {xs : List Operand} {a b : BitVec 32} (h : vops P E r K (S (.set d (.int .u32 ((a * b).toNat : Int)) L) A G)) (hx : evs L xs = some [.int .u32 (a.toNat : Int), .int .u32 (b.toNat : Int)] := by with_unfolding_all rfl) : vops P E (⟨none, dd, .pure d (.bin .mul) xs⟩ :: r) K (S L A G) := o_pure hx (by rw [umul32, oi32, oi32]) h
theorem s_mulr32 {d : Nat} {xs : List Operand} {a : BitVec 32} {b : Int} (h : vops P E r K (S (.set d (.int .u32 ((a * BitVec.ofInt 32 b).toNat : Int)) L) A G)) (hx : evs L xs = some [.int .u32 (a.toNat : Int), .int .u32 b] := by with_unfolding_all rfl) : vops P E (⟨none, dd, .pure d (.bin .mul) xs⟩ :: r) K (S L A G) := o_pure hx (by rw [umul32, oi32]) h
theorem s_mull32 {d : Nat} {xs : List Operand} {a : Int} {b : BitVec 32} (h : vops P E r K (S (.set d (.int .u32 ((BitVec.ofInt 32 a * b).toNat : Int)) L) A G)) (hx : evs L xs = some [.int .u32 a, .int .u32 (b.toNat : Int)] := by with_unfolding_all rfl) : vops P E (⟨none, dd, .pure d (.bin .mul) xs⟩ :: r) K (S L A G) := o_pure hx (by rw [umul32, oi32]) h
theorem s_shr32 {d : Nat} {xs : List Operand} {y : IntKind} {a : BitVec 32} {n : Int} (h : vops P E r K (S (.set d (.int .u32 ((a >>> n.toNat).toNat : Int)) L) A G)) (hx : evs L xs = some [.int .u32 (a.toNat : Int), .int y n] := by with_unfolding_all rfl) (hn : 0 ≤ n := by omega) : vops P E (⟨none, dd, .pure d (.bin .shr) xs⟩ :: r) K (S L A G) := o_pure hx (ushr32 a n hn) h
theorem s_shl32 {d : Nat} {xs : List Operand} {y : IntKind} {a : BitVec 32} {n : Int} (h : vops P E r K (S (.set d (.int .u32 ((a <<< n.toNat).toNat : Int)) L) A G)) (hx : evs L xs = some [.int .u32 (a.toNat : Int), .int y n] := by with_unfolding_all rfl) (hn : 0 ≤ n := by omega) : vops P E (⟨none, dd, .pure d (.bin .shl) xs⟩ :: r) K (S L A G) := o_pure hx (ushl32 a n hn) h
theorem s_quor32 {d : Nat} {xs : List Operand} {a : BitVec 32} {b : Int} (h : vops P E r K (S (.set d (.int .u32 ((a / BitVec.ofInt 32 b).toNat : Int)) L) A G)) (hx : evs L xs = some [.int .u32 (a.toNat : Int), .int .u32 b] := by with_unfolding_all rfl) (hb : ((BitVec.ofInt 32 b).toNat : Int) = b := by decide) (hz : BitVec.ofInt 32 b ≠ 0#32 := by decide) : vops P E (⟨none, dd, .pure d (.bin .quo) xs⟩ :: r) K (S L A G) := o_pure hx (by rw [← hb, uquo32 a _ hz, hb]) h
theorem s_remr32 {d : Nat} {xs : List Operand} {a : BitVec 32} {b : Int} (h : vops P E r K (S (.set d (.int .u32 ((a % BitVec.ofInt 32 b).toNat : Int)) L) A G)) (hx : evs L xs = some [.int .u32 (a.toNat : Int), .int .u32 b] := by with_unfolding_all rfl) (hb : ((BitVec.ofInt 32 b).toNat : Int) = b := by decide) (hz : BitVec.ofInt 32 b ≠ 0#32 := by decide) : vops P E (⟨none, dd, .pure d (.bin .rem) xs⟩ :: r) K (S L A G) := o_pure hx (by rw [← hb, urem32 a _ hz, hb]) h
theorem s_cn_32 {d : Nat} {xs : List Operand} {k : IntKind} {n : Nat} (h : vops P E r K (S (.set d (.int .u32 ((BitVec.ofNat 32 n).toNat : Int)) L) A G)) (hx : evs L xs = some [.int k (n : Int)] := by with_unfolding_all rfl) : vops P E (⟨none, dd, .pure d (.convI .u32) xs⟩ :: r) K (S L A G) := o_pure hx (by rw [x_convI, wn32]) h
theorem s_not32 {d : Nat} {xs : List Operand} {a : BitVec 32} (h : vops P E r K (S (.set d (.int .u32 ((~~~a).toNat : Int)) L) A G)) (hx : evs L xs = some [.int .u32 (a.toNat : Int)] := by with_unfolding_all rfl) : vops P E (⟨none, dd, .pure d (.un .xor) xs⟩ :: r) K (S L A G) := o_pure hx (unot32 a) h
theorem s_eq32 {d : Nat} {xs : List Operand} {a b : BitVec 32} (h : vops P E r K (S (.set d (.bool (a == b)) L) A G)) (hx : evs L xs = some [.int .u32 (a.toNat : Int), .int .u32 (b.toNat : Int)] := by with_unfolding_all rfl) : vops P E (⟨none, dd, .pure d (.bin .eql) xs⟩ :: r) K (S L A G) := o_pure hx (ueq32 a b) h
theorem s_ne32 {d : Nat} {xs : List Operand} {a b : BitVec 32} (h : vops P E r K (S (.set d (.bool (a != b)) L) A G)) (hx : evs L xs = some [.int .u32 (a.toNat : Int), .int .u32 (b.toNat : Int)] := by with_unfolding_all rfl) : vops P E (⟨none, dd, .pure d (.bin .neq) xs⟩ :: r) K (S L A G) := o_pure hx (une32 a b) h
theorem s_c8_32 {d : Nat} {xs : List Operand} {x : UInt8} (h : vops P E r K (S (.set d (.int .u32 ((BitVec.ofNat 32 x.toNat).toNat : Int)) L) A G)) (hx : evs L xs = some [.int .u8 (x.toNat : Int)] := by with_unfolding_all rfl) : vops P E (⟨none, dd, .pure d (.convI .u32) xs⟩ :: r) K (S L A G) := o_pure hx (by rw [x_convI, wn32]) h
theorem s_ci_32 {d : Nat} {xs : List Operand} {n : Int} (h : vops P E r K (S (.set d (.int .u32 ((BitVec.ofInt 32 n).toNat : Int)) L) A G)) (hx : evs L xs = some [.int .i64 n] := by with_unfolding_all rfl) : vops P E (⟨none, dd, .pure d (.convI .u32) xs⟩ :: r) K (S L A G) := o_pure hx (by rw [x_convI, w32]) h
theorem s_to8_32 {d : Nat} {xs : List Operand} {a : BitVec 32} (h : vops P E r K (S (.set d (bv (UInt8.ofNat a.toNat)) L) A G)) (hx : evs L xs = some [.int .u32 (a.toNat : Int)] := by with_unfolding_all rfl) : vops P E (⟨none, dd, .pure d (.convI .u8) xs⟩ :: r) K (S L A G) := o_pure hx (by rw [x_convI, wrap8, ofInt_nat]) h
theorem s_and64 {d : Nat} {xs : List Operand} {a b : BitVec 64} (h : vops P E r K (S (.set d (.int .u64 ((a &&& b).toNat : Int)) L) A G)) (hx : evs L xs = some [.int .u64 (a.toNat : Int), .int .u64 (b.toNat : Int)] := by with_unfolding_all rfl) : vops P E (⟨none, dd, .pure d (.bin .and) xs⟩ :: r) K (S L A G) := o_pure hx (by rw [uand64, oi64, oi64]) h
theorem s_andr64 {d : Nat} {xs : List Operand} {a : BitVec 64} {b : Int} (h : vops P E r K (S (.set d (.int .u64 ((a &&& BitVec.ofInt 64 b).toNat : Int)) L) A G)) (hx : evs L xs = some [.int .u64 (a.toNat : Int), .int .u64 b] := by with_unfolding_all rfl) : vops P E (⟨none, dd, .pure d (.bin .and) xs⟩ :: r) K (S L A G) := o_pure hx (by rw [uand64, oi64]) h
theorem s_andl64 {d : Nat} {xs : List Operand} {a : Int} {b : BitVec 64} (h : vops P E r K (S (.set d (.int .u64 ((BitVec.ofInt 64 a &&& b).toNat : Int)) L) A G)) (hx : evs L xs = some [.int .u64 a, .int .u64 (b.toNat : Int)] := by with_unfolding_all rfl) : vops P E (⟨none, dd, .pure d (.bin .and) xs⟩ :: r) K (S L A G) := o_pure hx (by rw [uand64, oi64]) h
theorem s_or64 {d : Nat} {xs : List Operand} {a b : BitVec 64} (h : vops P E r K (S (.set d (.int .u64 ((a ||| b).toNat : Int)) L) A G)) (hx : evs L xs = some [.int .u64 (a.toNat : Int), .int .u64 (b.toNat : Int)] := by with_unfolding_all rfl) : vops P E (⟨none, dd, .pure d (.bin .or) xs⟩ :: r) K (S L A G) := o_pure hx (by rw [uor64, oi64, oi64]) h
theorem s_orr64 {d : Nat} {xs : List Operand} {a : BitVec 64} {b : Int} (h : vops P E r K (S (.set d (.int .u64 ((a ||| BitVec.ofInt 64 b).toNat : Int)) L) A G)) (hx : evs L xs = some [.int .u64 (a.toNat : Int), .int .u64 b] := by with_unfolding_all rfl) : vops P E (⟨none, dd, .pure d (.bin .or) xs⟩ :: r) K (S L A G) := o_pure hx (by rw [uor64, oi64]) h
theorem s_orl64 {d : Nat} {xs : List Operand} {a : Int} {b : BitVec 64} (h : vops P E r K (S (.set d (.int .u64 ((BitVec.ofInt 64 a ||| b).toNat : Int)) L) A G)) (hx : evs L xs = some [.int .u64 a, .int .u64 (b.toNat : Int)] := by with_unfolding_all rfl) : vops P E (⟨none, dd, .pure d (.bin .or) xs⟩ :: r) K (S L A G) := o_pure hx (by rw [uor64, oi64]) h
theorem s_xor64 {d : Nat} {xs : List Operand} {a b : BitVec 64} (h : vops P E r K (S (.set d (.int .u64 ((a ^^^ b).toNat : Int)) L) A G)) (hx : evs L xs = some [.int .u64 (a.toNat : Int), .int .u64 (b.toNat : Int)] := by with_unfolding_all rfl) : vops P E (⟨none, dd, .pure d (.bin .xor) xs⟩ :: r) K (S L A G) := o_pure hx (by rw [uxor64, oi64, oi64]) h
theorem s_xorr64 {d : Nat} {xs : List Operand} {a : BitVec 64} {b : Int} (h : vops P E r K (S (.set d (.int .u64 ((a ^^^ BitVec.ofInt 64 b).toNat : Int)) L) A G)) (hx : evs L xs = some [.int .u64 (a.toNat : Int), .int .u64 b] := by with_unfolding_all rfl) : vops P E (⟨none, dd, .pure d (.bin .xor) xs⟩ :: r) K (S L A G) := o_pure hx (by rw [uxor64, oi64]) h
theorem s_xorl64 {d : Nat} {xs : List Operand} {a : Int} {b : BitVec 64} (h : vops P E r K (S (.set d (.int .u64 ((BitVec.ofInt 64 a ^^^ b).toNat : Int)) L) A G)) (hx : evs L xs = some [.int .u64 a, .int .u64 (b.toNat : Int)] := by with_unfolding_all rfl) : vops P E (⟨none, dd, .pure d (.bin .xor) xs⟩ :: r) K (S L A G) := o_pure hx (by rw [uxor64, oi64]) h
theorem s_add64 {d : Nat} {xs : List Operand} {a b : BitVec 64} (h : vops P E r K (S (.set d (.int .u64 ((a + b).toNat : Int)) L) A G)) (hx : evs L xs = some [.int .u64 (a.toNat : Int), .int .u64 (b.toNat : Int)] := by with_unfolding_all rfl) : vops P E (⟨none, dd, .pure d (.bin .add) xs⟩ :: r) K (S L A G) := o_pure hx (by rw [uadd64, oi64, oi64]) h
theorem s_addr64 {d : Nat} {xs : List Operand} {a : BitVec 64} {b : Int} (h : vops P E r K (S (.set d (.int .u64 ((a + BitVec.ofInt 64 b).toNat : Int)) L) A G)) (hx : evs L xs = some [.int .u64 (a.toNat : Int), .int .u64 b] := by with_unfolding_all rfl) : vops P E (⟨none, dd, .pure d (.bin .add) xs⟩ :: r) K (S L A G) := o_pure hx (by rw [uadd64, oi64]) h
theorem s_addl64 {d : Nat} {xs : List Operand} {a : Int} {b : BitVec 64} (h : vops P E r K (S (.set d (.int .u64 ((BitVec.ofInt 64 a + b).toNat : Int)) L) A G)) (hx : evs L xs = some [.int .u64 a, .int .u64 (b.toNat : Int)] := by with_unfolding_all rfl) : vops P E (⟨none, dd, .pure d (.bin .add) xs⟩ :: r) K (S L A G) := o_pure hx (by rw [uadd64, oi64]) h
theorem s_sub64 {d : Nat} {xs : List Operand} {a b : BitVec 64} (h : vops P E r K (S (.set d (.int .u64 ((a - b).toNat : Int)) L) A G)) (hx : evs L xs = some [.int .u64 (a.toNat : Int), .int .u64 (b.toNat : Int)] := by with_unfolding_all rfl) : vops P E (⟨none, dd, .pure d (.bin .sub) xs⟩ :: r) K (S L A G) := o_pure hx (by rw [usub64, oi64, oi64]) h
theorem s_subr64 {d : Nat} {xs : List Operand} {a : BitVec 64} {b : Int} (h : vops P E r K (S (.set d (.int .u64 ((a - BitVec.ofInt 64 b).toNat : Int)) L) A G)) (hx : evs L xs = some [.int .u64 (a.toNat : Int), .int .u64 b] := by with_unfolding_all rfl) : vops P E (⟨none, dd, .pure d (.bin .sub) xs⟩ :: r) K (S L A G) := o_pure hx (by rw [usub64, oi64]) h
theorem s_subl64 {d : Nat} {xs : List Operand} {a : Int} {b : BitVec 64} (h : vops P E r K (S (.set d (.int .u64 ((BitVec.ofInt 64 a - b).toNat : Int)) L) A G)) (hx : evs L xs = some [.int .u64 a, .int .u64 (b.toNat : Int)] := by with_unfolding_all rfl) : vops P E (⟨none, dd, .pure d (.bin .sub) xs⟩ :: r) K (S L A G) := o_pure hx (by rw [usub64, oi64]) h
theorem s_mul64 {d : Nat} {xs : List Operand} {a b : BitVec 64} (h : vops P E r K (S (.set d (.int .u64 ((a * b).toNat : Int)) L) A G)) (hx : evs L xs = some [.int .u64 (a.toNat : Int), .int .u64 (b.toNat : Int)] := by with_unfolding_all rfl) : vops P E (⟨none, dd, .pure d (.bin .mul) xs⟩ :: r) K (S L A G) := o_pure hx (by rw [umul64, oi64, oi64]) h
theorem s_mulr64 {d : Nat} {xs : List Operand} {a : BitVec 64} {b : Int} (h : vops P E r K (S (.set d (.int .u64 ((a * BitVec.ofInt 64 b).toNat : Int)) L) A G)) (hx : evs L xs = some [.int .u64 (a.toNat : Int), .int .u64 b] := by with_unfolding_all rfl) : vops P E (⟨none, dd, .pure d (.bin .mul) xs⟩ :: r) K (S L A G) := o_pure hx (by rw [umul64, oi64]) h
theorem s_mull64 {d : Nat} {xs : List Operand} {a : Int} {b : BitVec 64} (h : vops P E r K (S (.set d (.int .u64 ((BitVec.ofInt 64 a * b).toNat : Int)) L) A G)) (hx : evs L xs = some [.int .u64 a, .int .u64 (b.toNat : Int)] := by with_unfolding_all rfl) : vops P E (⟨none, dd, .pure d (.bin .mul) xs⟩ :: r) K (S L A G) := o_pure hx (by rw [umul64, oi64]) h
theorem s_shr64 {d : Nat} {xs : List Operand} {y : IntKind} {a : BitVec 64} {n : Int} (h : vops P E r K (S (.set d (.int .u64 ((a >>> n.toNat).toNat : Int)) L) A G)) (hx : evs L xs = some [.int .u64 (a.toNat : Int), .int y n] := by with_unfolding_all rfl) (hn : 0 ≤ n := by omega) : vops P E (⟨none, dd, .pure d (.bin .shr) xs⟩ :: r) K (S L A G) := o_pure hx (ushr64 a n hn) h
theorem s_shl64 {d : Nat} {xs : List Operand} {y : IntKind} {a : BitVec 64} {n : Int} (h : vops P E r K (S (.set d (.int .u64 ((a <<< n.toNat).toNat : Int)) L) A G)) (hx : evs L xs = some [.int .u64 (a.toNat : Int), .int y n] := by with_unfolding_all rfl) (hn : 0 ≤ n := by omega) : vops P E (⟨none, dd, .pure d (.bin .shl) xs⟩ :: r) K (S L A G) := o_pure hx (ushl64 a n hn) h
theorem s_quor64 {d : Nat} {xs : List Operand} {a : BitVec 64} {b : Int} (h : vops P E r K (S (.set d (.int .u64 ((a / BitVec.ofInt 64 b).toNat : Int)) L) A G)) (hx : evs L xs = some [.int .u64 (a.toNat : Int), .int .u64 b] := by with_unfolding_all rfl) (hb : ((BitVec.ofInt 64 b).toNat : Int) = b := by decide) (hz : BitVec.ofInt 64 b ≠ 0#64 := by decide) : vops P E (⟨none, dd, .pure d (.bin .quo) xs⟩ :: r) K (S L A G) := o_pure hx (by rw [← hb, uquo64 a _ hz, hb]) h
theorem s_remr64 {d : Nat} {xs : List Operand} {a : BitVec 64} {b : Int} (h : vops P E r K (S (.set d (.int .u64 ((a % BitVec.ofInt 64 b).toNat : Int)) L) A G)) (hx : evs L xs = some [.int .u64 (a.toNat : Int), .int .u64 b] := by with_unfolding_all rfl) (hb : ((BitVec.ofInt 64 b).toNat : Int) = b := by decide) (hz : BitVec.ofInt 64 b ≠ 0#64 := by decide) : vops P E (⟨none, dd, .pure d (.bin .rem) xs⟩ :: r) K (S L A G) := o_pure hx (by rw [← hb, urem64 a _ hz, hb]) h
theorem s_cn_64 {d : Nat} {xs : List Operand} {k : IntKind} {n : Nat} (h : vops P E r K (S (.set d (.int .u64 ((BitVec.ofNat 64 n).toNat : Int)) L) A G)) (hx : evs L xs = some [.int k (n : Int)] := by with_unfolding_all rfl) : vops P E (⟨none, dd, .pure d (.convI .u64) xs⟩ :: r) K (S L A G) := o_pure hx (by rw [x_convI, wn64]) h
theorem s_not64 {d : Nat} {xs : List Operand} {a : BitVec 64} (h : vops P E r K (S (.set d (.int .u64 ((~~~a).toNat : Int)) L) A G)) (hx : evs L xs = some [.int .u64 (a.toNat : Int)] := by with_unfolding_all rfl) : vops P E (⟨none, dd, .pure d (.un .xor) xs⟩ :: r) K (S L A G) := o_pure hx (unot64 a) h
theorem s_eq64 {d : Nat} {xs : List Operand} {a b : BitVec 64} (h : vops P E r K (S (.set d (.bool (a == b)) L) A G)) (hx : evs L xs = some [.int .u64 (a.toNat : Int), .int .u64 (b.toNat : Int)] := by with_unfolding_all rfl) : vops P E (⟨none, dd, .pure d (.bin .eql) xs⟩ :: r) K (S L A G) := o_pure hx (ueq64 a b) h
theorem s_ne64 {d : Nat} {xs : List Operand} {a b : BitVec 64} (h : vops P E r K (S (.set d (.bool (a != b)) L) A G)) (hx : evs L xs = some [.int .u64 (a.toNat : Int), .int .u64 (b.toNat : Int)] := by with_unfolding_all rfl) : vops P E (⟨none, dd, .pure d (.bin .neq) xs⟩ :: r) K (S L A G) := o_pure hx (une64 a b) h
theorem s_c8_64 {d : Nat} {xs : List Operand} {x : UInt8} (h : vops P E r K (S (.set d (.int .u64 ((BitVec.ofNat 64 x.toNat).toNat : Int)) L) A G)) (hx : evs L xs = some [.int .u8 (x.toNat : Int)] := by with_unfolding_all rfl) : vops P E (⟨none, dd, .pure d (.convI .u64) xs⟩ :: r) K (S L A G) := o_pure hx (by rw [x_convI, wn64]) h
theorem s_ci_64 {d : Nat} {xs : List Operand} {n : Int} (h : vops P E r K (S (.set d (.int .u64 ((BitVec.ofInt 64 n).toNat : Int)) L) A G)) (hx : evs L xs = some [.int .i64 n] := by with_unfolding_all rfl) : vops P E (⟨none, dd, .pure d (.convI .u64) xs⟩ :: r) K (S L A G) := o_pure hx (by rw [x_convI, w64]) h
theorem s_to8_64 {d : Nat} {xs : List Operand} {a : BitVec 64} (h : vops P E r K (S (.set d (bv (UInt8.ofNat a.toNat)) L) A G)) (hx : evs L xs = some [.int .u64 (a.toNat : Int)] := by with_unfolding_all rfl) : vops P E (⟨none, dd, .pure d (.convI .u8) xs⟩ :: r) K (S L A G) := o_pure hx (by rw [x_convI, wrap8, ofInt_nat]) h
theorem s_toi_32 {d : Nat} {xs : List Operand} {a : BitVec 32} (h : vops P E r K (S (.set d (.int .i64 (a.toNat : Int)) L) A G)) (hx : evs L xs = some [.int .u32 (a.toNat : Int)] := by with_unfolding_all rfl) : vops P E (⟨none, dd, .pure d (.convI .i64) xs⟩ :: r) K (S L A G) := o_pure hx (by have := a.isLt; rw [x_convI, wrap_i64 (by omega) (by omega)]) h
end
end Go.Proofs.Ytnddanaangolgaa.V
