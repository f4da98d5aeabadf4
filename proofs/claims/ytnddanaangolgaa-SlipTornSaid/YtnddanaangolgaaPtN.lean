/- SlipSpoilt. -/
import Derived.Test.YtnddanaangolgaaPtM
import Derived.Test.YtnddanaangolgaaPtVL
set_option linter.unusedSimpArgs false
set_option linter.unusedVariables false
-- @extra s_shr32 s_remr32 s_xor8 s_shl8 s_qadd s_qquo s_qrem
namespace Go.Proofs.Ytnddanaangolgaa.V
open Go.RowKit Go.ChangeShapes Go.WideShapes
theorem xor8 (x y : UInt8) : pureV (.bin .xor) [bv x, bv y] = some (bv (x ^^^ y)) := by
  rw [x_xor, wrap8]
  simp only [bv]
  congr 2
  have : (BitVec.ofInt IntKind.u8.bits (x.toNat : Int) ^^^ BitVec.ofInt IntKind.u8.bits (y.toNat : Int)).toNat = (x ^^^ y).toNat := by
    rw [BitVec.toNat_xor, UInt8.toNat_xor]
    have h1 := x.toNat_lt
    have h2 := y.toNat_lt
    simp [IntKind.bits, Nat.mod_eq_of_lt (show x.toNat < 2 ^ 8 by omega), Nat.mod_eq_of_lt (show y.toNat < 2 ^ 8 by omega)]
  rw [this, ofInt_nat]; simp
theorem shl8 {k : IntKind} (n : Nat) (h : n < 8) : pureV (.bin .shl) [.int .u8 1, .int k n] = some (bv (UInt8.ofNat (2 ^ n))) := by
  rw [x_shl, if_neg (by omega), Int.toNat_natCast, x_bits8, Nat.min_eq_left (by omega), wrap8]
  simp only [bv]
  congr 2
  rw [Int.one_mul, show ((2 : Int) ^ n) = ((2 ^ n : Nat) : Int) by rw [Int.natCast_pow]; rfl, ofInt_nat]
section
variable {P : Program} {E : Env} {K : St → Prop} {r : List Stp} {dd : Option Nat} {L : SL} {A : AL} {G : GH}
theorem s_qadd {d : Nat} {xs : List Operand} {x y : Nat} (h : vops P E r K (S (.set d (.int .i64 ((x + y : Nat) : Int)) L) A G)) (hx : evs L xs = some [.int .i64 x, .int .i64 y] := by with_unfolding_all rfl) (h1 : x + y < 9223372036854775808 := by omega) : vops P E (⟨none, dd, .pure d (.bin .add) xs⟩ :: r) K (S L A G) := o_pure hx (by rw [x_add, wrap_i64 (by omega) (by omega), Int.natCast_add]) h
theorem s_qquo {d : Nat} {a : Operand} {x n : Nat} (h : vops P E r K (S (.set d (.int .i64 ((x / (OfNat.ofNat n : Nat) : Nat) : Int)) L) A G)) (hx : evo L a = some (.int .i64 x) := by with_unfolding_all rfl) (h1 : x < 9223372036854775808 := by omega) (h2 : (OfNat.ofNat n : Nat) ≠ 0 := by omega) : vops P E (⟨none, dd, .pure d (.bin .quo) [a, .const (.int .i64 (OfNat.ofNat n))]⟩ :: r) K (S L A G) := by
  refine o_pure (vs := [.int .i64 x, .int .i64 ((OfNat.ofNat n : Nat) : Int)]) ?_ ?_ h
  · show (match evo L a with | none => none | some v => match some [_] with | none => none | some vs => some (v :: vs)) = _
    rw [hx]; rfl
  · have := Nat.div_le_self x (OfNat.ofNat n)
    rw [x_quo, if_neg (by omega), Int.tdiv_eq_ediv_of_nonneg (by omega), ← Int.natCast_ediv]; generalize x / OfNat.ofNat n = q at *; rw [wrap_i64 (by omega) (by omega)]
theorem s_qrem {d : Nat} {a : Operand} {x n : Nat} (h : vops P E r K (S (.set d (.int .i64 ((x % (OfNat.ofNat n : Nat) : Nat) : Int)) L) A G)) (hx : evo L a = some (.int .i64 x) := by with_unfolding_all rfl) (h2 : (OfNat.ofNat n : Nat) ≠ 0 := by omega) : vops P E (⟨none, dd, .pure d (.bin .rem) [a, .const (.int .i64 (OfNat.ofNat n))]⟩ :: r) K (S L A G) := by
  refine o_pure (vs := [.int .i64 x, .int .i64 ((OfNat.ofNat n : Nat) : Int)]) ?_ ?_ h
  · show (match evo L a with | none => none | some v => match some [_] with | none => none | some vs => some (v :: vs)) = _
    rw [hx]; rfl
  · rw [x_rem, if_neg (by omega), Int.tmod_eq_emod_of_nonneg (by omega), ← Int.natCast_emod]
theorem s_xor8 {d : Nat} {xs : List Operand} {x y : UInt8} (h : vops P E r K (S (.set d (bv (x ^^^ y)) L) A G)) (hx : evs L xs = some [bv x, bv y] := by with_unfolding_all rfl) : vops P E (⟨none, dd, .pure d (.bin .xor) xs⟩ :: r) K (S L A G) := o_pure hx (xor8 x y) h
theorem s_shl8 {d : Nat} {k : IntKind} {xs : List Operand} {n : Nat} (h : vops P E r K (S (.set d (bv (UInt8.ofNat (2 ^ n))) L) A G)) (hx : evs L xs = some [.int .u8 1, .int k n] := by with_unfolding_all rfl) (hn : n < 8 := by omega) : vops P E (⟨none, dd, .pure d (.bin .shl) xs⟩ :: r) K (S L A G) := o_pure hx (shl8 n hn) h
end
end Go.Proofs.Ytnddanaangolgaa.V
