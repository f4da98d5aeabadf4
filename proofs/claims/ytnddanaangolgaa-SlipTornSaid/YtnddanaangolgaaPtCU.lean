/- Words of 32 and 64 bits (printed by a program of this repo). -/
import Derived.Test.YtnddanaangolgaaPtVL
set_option linter.unusedSimpArgs false
set_option linter.unusedVariables false
namespace Go.Proofs.Ytnddanaangolgaa.V
open Go.RowKit
theorem umin (w n : Nat) (a : Nat) (h : a < 2 ^ w) : a / 2 ^ (min n w) = a / 2 ^ n := by
  by_cases k : n ≤ w
  · rw [Nat.min_eq_left k]
  · rw [Nat.min_eq_right (by omega), Nat.div_eq_of_lt h, Nat.div_eq_of_lt (Nat.lt_of_lt_of_le h (Nat.pow_le_pow_right (by decide) (by omega)))]
theorem w32 (n : Int) : IntKind.u32.wrap n = ((BitVec.ofInt 32 n).toNat : Int) := by
  rw [wrap_u32, BitVec.toNat_ofInt]; omega
theorem wn32 (n : Nat) : IntKind.u32.wrap (n : Int) = ((BitVec.ofNat 32 n).toNat : Int) := by
  rw [wrap_u32, BitVec.toNat_ofNat]; omega
theorem wb32 (x : BitVec 32) : IntKind.u32.wrap (x.toNat : Int) = (x.toNat : Int) := by
  have := x.isLt; rw [wrap_u32]; omega
theorem oi32 (x : BitVec 32) : BitVec.ofInt 32 (x.toNat : Int) = x := by simp
theorem uand32 (a b : Int) : pureV (.bin .and) [.int .u32 a, .int .u32 b] = some (.int .u32 ((BitVec.ofInt 32 a &&& BitVec.ofInt 32 b).toNat : Int)) := by
  rw [x_and]; exact congrArg (fun z => some (Value.int .u32 z)) (wb32 _)
theorem uxor32 (a b : Int) : pureV (.bin .xor) [.int .u32 a, .int .u32 b] = some (.int .u32 ((BitVec.ofInt 32 a ^^^ BitVec.ofInt 32 b).toNat : Int)) := by
  rw [x_xor]; exact congrArg (fun z => some (Value.int .u32 z)) (wb32 _)
theorem usub32 (a b : Int) : pureV (.bin .sub) [.int .u32 a, .int .u32 b] = some (.int .u32 ((BitVec.ofInt 32 a - BitVec.ofInt 32 b).toNat : Int)) := by
  rw [x_sub, w32, Int.sub_eq_add_neg, BitVec.ofInt_add, BitVec.ofInt_neg, ← BitVec.sub_eq_add_neg]
theorem ushr32 {y : IntKind} (a : BitVec 32) (n : Int) (h : 0 ≤ n) : pureV (.bin .shr) [.int .u32 (a.toNat : Int), .int y n] = some (.int .u32 ((a >>> n.toNat).toNat : Int)) := by
  rw [x_shr, if_neg (by omega), Int.fdiv_eq_ediv_of_nonneg _ (Int.le_of_lt (Int.pow_pos (by decide))), BitVec.toNat_ushiftRight, Nat.shiftRight_eq_div_pow, ← umin 32 n.toNat _ a.isLt]
  simp only [Int.natCast_ediv, Int.natCast_pow]; rfl
theorem uquo32 (a b : BitVec 32) (h : b ≠ 0#32) : pureV (.bin .quo) [.int .u32 (a.toNat : Int), .int .u32 (b.toNat : Int)] = some (.int .u32 ((a / b).toNat : Int)) := by
  have hb : b.toNat ≠ 0 := fun e => h (BitVec.eq_of_toNat_eq (by rw [e]; rfl))
  rw [x_quo, if_neg (by omega), Int.tdiv_eq_ediv_of_nonneg (by omega), ← Int.natCast_ediv, ← BitVec.toNat_udiv, wb32]
theorem urem32 (a b : BitVec 32) (h : b ≠ 0#32) : pureV (.bin .rem) [.int .u32 (a.toNat : Int), .int .u32 (b.toNat : Int)] = some (.int .u32 ((a % b).toNat : Int)) := by
  have hb : b.toNat ≠ 0 := fun e => h (BitVec.eq_of_toNat_eq (by rw [e]; rfl))
  rw [x_rem, if_neg (by omega), Int.tmod_eq_emod_of_nonneg (by omega), ← Int.natCast_emod, ← BitVec.toNat_umod]
theorem unot32 (a : BitVec 32) : pureV (.un .xor) [.int .u32 (a.toNat : Int)] = some (.int .u32 ((~~~a).toNat : Int)) := by
  show some (Value.int .u32 (IntKind.u32.wrap (BitVec.ofInt 32 4294967295 ^^^ BitVec.ofInt 32 (a.toNat : Int)).toNat)) = _
  rw [wb32, oi32, show BitVec.ofInt 32 4294967295 = BitVec.allOnes 32 from rfl, BitVec.allOnes_xor]
section
variable {P : Program} {E : Env} {K : St → Prop} {r : List Stp} {dd : Option Nat} {L : SL} {A : AL} {G : GH}
theorem s_and32 {d : Nat} {xs : List Operand} {a b : BitVec 32} (h : vops P E r K (S (.set d (.int .u32 ((a &&& b).toNat : Int)) L) A G)) (hx : evs L xs = some [.int .u32 (a.toNat : Int), .int .u32 (b.toNat : Int)] := by with_unfolding_all rfl) : vops P E (⟨none, dd, .pure d (.bin .and) xs⟩ :: r) K (S L A G) := o_pure hx (by rw [uand32, oi32, oi32]) h
theorem s_andr32 {d : Nat} {xs : List Operand} {a : BitVec 32} {b : Int} (h : vops P E r K (S (.set d (.int .u32 ((a &&& BitVec.ofInt 32 b).toNat : Int)) L) A G)) (hx : evs L xs = some [.int .u32 (a.toNat : Int), .int .u32 b] := by with_unfolding_all rfl) : vops P E (⟨none, dd, .pure d (.bin .and) xs⟩ :: r) K (S L A G) := o_pure hx (by rw [uand32, oi32]) h
theorem s_xor32 {d : Nat} {xs : List Operand} {a b : BitVec 32} (h : vops P E r K (S (.set d (.int .u32 ((a ^^^ b).toNat : Int)) L) A G)) (hx : evs L xs = some [.int .u32 (a.toNat : Int), .int .u32 (b.toNat : Int)] := by with_unfolding_all rfl) : vops P E (⟨none, dd, .pure d (.bin .xor) xs⟩ :: r) K (S L A G) := o_pure hx (by rw [uxor32, oi32, oi32]) h
theorem s_xorr32 {d : Nat} {xs : List Operand} {a : BitVec 32} {b : Int} (h : vops P E r K (S (.set d (.int .u32 ((a ^^^ BitVec.ofInt 32 b).toNat : Int)) L) A G)) (hx : evs L xs = some [.int .u32 (a.toNat : Int), .int .u32 b] := by with_unfolding_all rfl) : vops P E (⟨none, dd, .pure d (.bin .xor) xs⟩ :: r) K (S L A G) := o_pure hx (by rw [uxor32, oi32]) h
theorem s_subl32 {d : Nat} {xs : List Operand} {a : Int} {b : BitVec 32} (h : vops P E r K (S (.set d (.int .u32 ((BitVec.ofInt 32 a - b).toNat : Int)) L) A G)) (hx : evs L xs = some [.int .u32 a, .int .u32 (b.toNat : Int)] := by with_unfolding_all rfl) : vops P E (⟨none, dd, .pure d (.bin .sub) xs⟩ :: r) K (S L A G) := o_pure hx (by rw [usub32, oi32]) h
theorem s_shr32 {d : Nat} {xs : List Operand} {y : IntKind} {a : BitVec 32} {n : Int} (h : vops P E r K (S (.set d (.int .u32 ((a >>> n.toNat).toNat : Int)) L) A G)) (hx : evs L xs = some [.int .u32 (a.toNat : Int), .int y n] := by with_unfolding_all rfl) (hn : 0 ≤ n := by omega) : vops P E (⟨none, dd, .pure d (.bin .shr) xs⟩ :: r) K (S L A G) := o_pure hx (ushr32 a n hn) h
theorem s_quor32 {d : Nat} {xs : List Operand} {a : BitVec 32} {b : Int} (h : vops P E r K (S (.set d (.int .u32 ((a / BitVec.ofInt 32 b).toNat : Int)) L) A G)) (hx : evs L xs = some [.int .u32 (a.toNat : Int), .int .u32 b] := by with_unfolding_all rfl) (hb : ((BitVec.ofInt 32 b).toNat : Int) = b := by decide) (hz : BitVec.ofInt 32 b ≠ 0#32 := by decide) : vops P E (⟨none, dd, .pure d (.bin .quo) xs⟩ :: r) K (S L A G) := o_pure hx (by rw [← hb, uquo32 a _ hz, hb]) h
theorem s_remr32 {d : Nat} {xs : List Operand} {a : BitVec 32} {b : Int} (h : vops P E r K (S (.set d (.int .u32 ((a % BitVec.ofInt 32 b).toNat : Int)) L) A G)) (hx : evs L xs = some [.int .u32 (a.toNat : Int), .int .u32 b] := by with_unfolding_all rfl) (hb : ((BitVec.ofInt 32 b).toNat : Int) = b := by decide) (hz : BitVec.ofInt 32 b ≠ 0#32 := by decide) : vops P E (⟨none, dd, .pure d (.bin .rem) xs⟩ :: r) K (S L A G) := o_pure hx (by rw [← hb, urem32 a _ hz, hb]) h
theorem s_cn_32 {d : Nat} {xs : List Operand} {k : IntKind} {n : Nat} (h : vops P E r K (S (.set d (.int .u32 ((BitVec.ofNat 32 n).toNat : Int)) L) A G)) (hx : evs L xs = some [.int k (n : Int)] := by with_unfolding_all rfl) : vops P E (⟨none, dd, .pure d (.convI .u32) xs⟩ :: r) K (S L A G) := o_pure hx (by rw [x_convI, wn32]) h
theorem s_not32 {d : Nat} {xs : List Operand} {a : BitVec 32} (h : vops P E r K (S (.set d (.int .u32 ((~~~a).toNat : Int)) L) A G)) (hx : evs L xs = some [.int .u32 (a.toNat : Int)] := by with_unfolding_all rfl) : vops P E (⟨none, dd, .pure d (.un .xor) xs⟩ :: r) K (S L A G) := o_pure hx (unot32 a) h
theorem s_to8_32 {d : Nat} {xs : List Operand} {a : BitVec 32} (h : vops P E r K (S (.set d (bv (UInt8.ofNat a.toNat)) L) A G)) (hx : evs L xs = some [.int .u32 (a.toNat : Int)] := by with_unfolding_all rfl) : vops P E (⟨none, dd, .pure d (.convI .u8) xs⟩ :: r) K (S L A G) := o_pure hx (by rw [x_convI, wrap8, ofInt_nat]) h
end
end Go.Proofs.Ytnddanaangolgaa.V
