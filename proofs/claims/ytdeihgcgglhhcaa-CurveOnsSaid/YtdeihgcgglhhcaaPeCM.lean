/- Small numbers (of 64 bits, signed) as natural numbers. -/
import Derived.Test.YtdeihgcgglhhcaaPeCW
set_option linter.unusedSimpArgs false
set_option linter.unusedVariables false
namespace Go.Proofs.Ytdeihgcgglhhcaa.V
open Go.RowKit
theorem nadd (x y : Nat) (h : x + y < 9223372036854775808) : pureV (.bin .add) [iv .i64 x, iv .i64 y] = some (iv .i64 (x + y)) := by
  rw [x_add, wrap_i64 (by omega) (by omega)]; simp only [iv, Int.natCast_add]
theorem nsub (x y : Nat) (h : y ≤ x) (hx : x < 9223372036854775808) : pureV (.bin .sub) [iv .i64 x, iv .i64 y] = some (iv .i64 (x - y)) := by
  rw [x_sub, wrap_i64 (by omega) (by omega)]; simp only [iv]; congr 2; omega
theorem nmul (x y : Nat) (h : x * y < 9223372036854775808) : pureV (.bin .mul) [iv .i64 x, iv .i64 y] = some (iv .i64 (x * y)) := by
  have e : ((x : Int) * (y : Int)) = ((x * y : Nat) : Int) := by rw [Int.natCast_mul]
  rw [x_mul, e, wrap_i64 (by omega) (by omega)]
theorem nquo (x y : Nat) (hx : x < 9223372036854775808) (h : y ≠ 0) : pureV (.bin .quo) [iv .i64 x, iv .i64 y] = some (iv .i64 (x / y)) := by
  have := Nat.div_le_self x y
  rw [x_quo, if_neg (by omega), Int.tdiv_eq_ediv_of_nonneg (by omega), ← Int.natCast_ediv]; generalize x / y = q at *; rw [wrap_i64 (by omega) (by omega)]
theorem nrem (x y : Nat) (h : y ≠ 0) : pureV (.bin .rem) [iv .i64 x, iv .i64 y] = some (iv .i64 (x % y)) := by
  rw [x_rem, if_neg (by omega), Int.tmod_eq_emod_of_nonneg (by omega), ← Int.natCast_emod]
theorem wconv (k : IntKind) (x : Nat) (h : x < 18446744073709551616) : pureV (.convI .u64) [iv k x] = some (iv .u64 x) := by
  rw [x_convI, wrap_u64]; simp only [iv]; congr 2; omega
section
variable {P : Program} {E : Env} {K : St → Prop} {r : List Stp} {dd : Option Nat} {L : SL} {A : AL} {G : GH}
theorem s_nadd {d : Nat} {xs : List Operand} {x y : Nat} (h : vops P E r K (S (.set d (iv .i64 (x + y)) L) A G)) (hx : evs L xs = some [.int .i64 x, .int .i64 y] := by with_unfolding_all rfl) (h1 : x + y < 9223372036854775808 := by omega) : vops P E (⟨none, dd, .pure d (.bin .add) xs⟩ :: r) K (S L A G) := o_pure hx (nadd x y h1) h
theorem s_nsub {d : Nat} {xs : List Operand} {x y : Nat} (h : vops P E r K (S (.set d (iv .i64 (x - y)) L) A G)) (hx : evs L xs = some [.int .i64 x, .int .i64 y] := by with_unfolding_all rfl) (h1 : y ≤ x := by omega) (h2 : x < 9223372036854775808 := by omega) : vops P E (⟨none, dd, .pure d (.bin .sub) xs⟩ :: r) K (S L A G) := o_pure hx (nsub x y h1 h2) h
theorem s_wconv {d : Nat} {xs : List Operand} {k : IntKind} {x : Nat} (h : vops P E r K (S (.set d (iv .u64 x) L) A G)) (hx : evs L xs = some [.int k x] := by with_unfolding_all rfl) (h1 : x < 18446744073709551616 := by omega) : vops P E (⟨none, dd, .pure d (.convI .u64) xs⟩ :: r) K (S L A G) := o_pure hx (wconv k x h1) h
end
open Go.ChangeShapes Go.WideShapes Go.ChangeAt
end Go.Proofs.Ytdeihgcgglhhcaa.V
