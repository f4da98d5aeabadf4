/- Words of 64 bits as numbers. -/
import Derived.Test.YtdeihgcgglhhcaaPeCW
import Derived.Laws.MathBits
set_option linter.unusedSimpArgs false
set_option linter.unusedVariables false
namespace Go.Proofs.Ytdeihgcgglhhcaa.V
open Go.RowKit
theorem wadd (x y : Nat) : pureV (.bin .add) [iv .u64 x, iv .u64 y] = some (iv .u64 ((x + y) % 18446744073709551616)) := by
  rw [x_add, wrap_u64]; simp only [iv]; congr 2; try omega
theorem wsub (x y : Nat) (h : y ≤ 18446744073709551616) : pureV (.bin .sub) [iv .u64 x, iv .u64 y] = some (iv .u64 ((x + 18446744073709551616 - y) % 18446744073709551616)) := by
  rw [x_sub, wrap_u64]; simp only [iv]; congr 2; omega
theorem wmul (x y : Nat) : pureV (.bin .mul) [iv .u64 x, iv .u64 y] = some (iv .u64 ((x * y) % 18446744073709551616)) := by
  rw [x_mul, wrap_u64]; simp only [iv]; congr 2
theorem wquo (x y : Nat) (hx : x < 18446744073709551616) (h : y ≠ 0) : pureV (.bin .quo) [iv .u64 x, iv .u64 y] = some (iv .u64 (x / y)) := by
  have := Nat.div_le_self x y
  rw [x_quo, if_neg (by omega), Int.tdiv_eq_ediv_of_nonneg (by omega), ← Int.natCast_ediv, wrap_u64]; simp only [iv]; generalize x / y = q at *; congr 2; omega
theorem wrem (x y : Nat) (h : y ≠ 0) : pureV (.bin .rem) [iv .u64 x, iv .u64 y] = some (iv .u64 (x % y)) := by
  rw [x_rem, if_neg (by omega), Int.tmod_eq_emod_of_nonneg (by omega), ← Int.natCast_emod]
theorem wshr {k : IntKind} (x n : Nat) (hx : x < 18446744073709551616) : pureV (.bin .shr) [iv .u64 x, .int k (n : Int)] = some (iv .u64 (x / 2 ^ n)) := by
  have e : x / 2 ^ (min n 64) = x / 2 ^ n := by
    by_cases h : n ≤ 64
    · rw [Nat.min_eq_left h]
    · have : 2 ^ 64 ≤ 2 ^ n := Nat.pow_le_pow_right (by decide) (by omega)
      rw [Nat.min_eq_right (by omega), Nat.div_eq_of_lt (by omega), Nat.div_eq_of_lt (by omega)]
  rw [x_shr, if_neg (by omega), Int.fdiv_eq_ediv_of_nonneg _ (Int.le_of_lt (Int.pow_pos (by decide))), Int.toNat_natCast, x_bits64, ← e]
  simp only [iv, Int.natCast_ediv, Int.natCast_pow]; rfl
theorem wshl {k : IntKind} (x n : Nat) : pureV (.bin .shl) [iv .u64 x, .int k (n : Int)] = some (iv .u64 ((x * 2 ^ n) % 18446744073709551616)) := by
  have e : (x * 2 ^ (min n 64)) % 18446744073709551616 = (x * 2 ^ n) % 18446744073709551616 := by
    by_cases h : n ≤ 64
    · rw [Nat.min_eq_left h]
    · rw [Nat.min_eq_right (by omega), show (18446744073709551616 : Nat) = 2 ^ 64 by decide, Nat.mul_mod_left, show n = (n - 64) + 64 by omega, Nat.pow_add, ← Nat.mul_assoc, Nat.mul_mod_left]
  rw [x_shl, if_neg (by omega), Int.toNat_natCast, x_bits64, wrap_u64, ← e]
  have e2 : ((x : Int) * 2 ^ (min n 64)) = ((x * 2 ^ (min n 64) : Nat) : Int) := by rw [Int.natCast_mul, Int.natCast_pow]; rfl
  rw [e2]; simp only [iv]; congr 2
theorem wand (x y : Nat) : pureV (.bin .and) [iv .u64 x, iv .u64 y] = some (iv .u64 ((x &&& y) % 18446744073709551616)) := by
  rw [x_and, wrap_u64]; simp only [iv]; congr 2
  have : (BitVec.ofInt IntKind.u64.bits (x : Int) &&& BitVec.ofInt IntKind.u64.bits (y : Int)).toNat = (x &&& y) % 2 ^ 64 := by
    rw [BitVec.toNat_and, Nat.and_mod_two_pow]
    simp [IntKind.bits]
  rw [this]; omega
theorem wor (x y : Nat) (hx : x < 18446744073709551616) (hy : y < 18446744073709551616) : pureV (.bin .or) [iv .u64 x, iv .u64 y] = some (iv .u64 (x ||| y)) := by
  rw [x_or, wrap_u64]; simp only [iv]; congr 2
  have e : (BitVec.ofInt IntKind.u64.bits (x : Int) ||| BitVec.ofInt IntKind.u64.bits (y : Int)).toNat = x ||| y := by
    rw [BitVec.toNat_or]
    simp [IntKind.bits, Nat.mod_eq_of_lt (show x < 2 ^ 64 from hx), Nat.mod_eq_of_lt (show y < 2 ^ 64 from hy)]
  rw [e]
  have : x ||| y < 2 ^ 64 := Nat.or_lt_two_pow (n := 64) hx hy
  omega
theorem and32 (x : Nat) : (x &&& 4294967295) % 18446744073709551616 = x % 4294967296 := by
  rw [show (4294967295 : Nat) = 2 ^ 32 - 1 by decide, Nat.and_two_pow_sub_one_eq_mod]; omega
section
variable {P : Program} {E : Env} {K : St → Prop} {r : List Stp} {dd : Option Nat} {L : SL} {A : AL} {G : GH}
theorem s_wadd {d : Nat} {xs : List Operand} {x y : Nat} (h : vops P E r K (S (.set d (iv .u64 ((x + y) % 18446744073709551616)) L) A G)) (hx : evs L xs = some [.int .u64 x, .int .u64 y] := by with_unfolding_all rfl) : vops P E (⟨none, dd, .pure d (.bin .add) xs⟩ :: r) K (S L A G) := o_pure hx (wadd x y) h
theorem s_wsub {d : Nat} {xs : List Operand} {x y : Nat} (h : vops P E r K (S (.set d (iv .u64 ((x + 18446744073709551616 - y) % 18446744073709551616)) L) A G)) (hx : evs L xs = some [.int .u64 x, .int .u64 y] := by with_unfolding_all rfl) (hy : y ≤ 18446744073709551616 := by omega) : vops P E (⟨none, dd, .pure d (.bin .sub) xs⟩ :: r) K (S L A G) := o_pure hx (wsub x y hy) h
theorem s_wmul {d : Nat} {xs : List Operand} {x y : Nat} (h : vops P E r K (S (.set d (iv .u64 ((x * y) % 18446744073709551616)) L) A G)) (hx : evs L xs = some [.int .u64 x, .int .u64 y] := by with_unfolding_all rfl) : vops P E (⟨none, dd, .pure d (.bin .mul) xs⟩ :: r) K (S L A G) := o_pure hx (wmul x y) h
theorem s_wshr {d : Nat} {xs : List Operand} {k : IntKind} {x n : Nat} (h : vops P E r K (S (.set d (iv .u64 (x / 2 ^ n)) L) A G)) (hx : evs L xs = some [.int .u64 x, .int k n] := by with_unfolding_all rfl) (h1 : x < 18446744073709551616 := by omega) : vops P E (⟨none, dd, .pure d (.bin .shr) xs⟩ :: r) K (S L A G) := o_pure hx (wshr x n h1) h
theorem s_wand {d : Nat} {xs : List Operand} {x y : Nat} (h : vops P E r K (S (.set d (iv .u64 ((x &&& y) % 18446744073709551616)) L) A G)) (hx : evs L xs = some [.int .u64 x, .int .u64 y] := by with_unfolding_all rfl) : vops P E (⟨none, dd, .pure d (.bin .and) xs⟩ :: r) K (S L A G) := o_pure hx (wand x y) h
theorem s_wor {d : Nat} {xs : List Operand} {x y : Nat} (h : vops P E r K (S (.set d (iv .u64 (x ||| y)) L) A G)) (hx : evs L xs = some [.int .u64 x, .int .u64 y] := by with_unfolding_all rfl) (h1 : x < 18446744073709551616 := by omega) (h2 : y < 18446744073709551616 := by omega) : vops P E (⟨none, dd, .pure d (.bin .or) xs⟩ :: r) K (S L A G) := o_pure hx (wor x y h1 h2) h
end
end Go.Proofs.Ytdeihgcgglhhcaa.V
