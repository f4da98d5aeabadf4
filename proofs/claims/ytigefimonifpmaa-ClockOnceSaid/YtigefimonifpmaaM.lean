/- Digits. -/
import Derived.Test.YtigefimonifpmaaK
set_option linter.unusedSimpArgs false
set_option linter.unusedVariables false
namespace Go.Proofs.Ytigefimonifpmaa.V
open Go.RowKit Go.ChangeShapes Go.WideShapes
/-- A number's last k digits. -/
def digB (n : Int) : Nat → List UInt8
  | 0 => []
  | k + 1 => UInt8.ofInt (48 + n / 10 ^ k % 10) :: digB n k
@[simp] theorem digB_len (n : Int) : ∀ k, (digB n k).length = k
  | 0 => rfl
  | k + 1 => by simp [digB, digB_len n k]
theorem digB_2 (n : Int) : digB n 2 = two n := by
  have h : n / 10 ^ 1 % 10 = n / 10 % 10 := by rfl
  have h0 : n / 10 ^ 0 % 10 = n % 10 := by rw [Int.pow_zero, Int.ediv_one]
  simp only [digB, two, h, h0]
theorem digB_4 (n : Int) : digB n 4 = two (n / 100) ++ two (n % 100) := by
  have h3 : n / 10 ^ 3 % 10 = n / 100 / 10 % 10 := by show n / 1000 % 10 = _; omega
  have h2 : n / 10 ^ 2 % 10 = n / 100 % 10 := by rfl
  have h1 : n / 10 ^ 1 % 10 = n % 100 / 10 % 10 := by show n / 10 % 10 = _; omega
  have h0 : n / 10 ^ 0 % 10 = n % 100 % 10 := by rw [Int.pow_zero, Int.ediv_one]; omega
  simp only [digB, two, h0, h1, h2, h3]; rfl
theorem tmod7 (a : Int) : a.tmod 7 = if 0 ≤ a then a % 7 else -((-a) % 7) := by
  split
  · exact Int.tmod_eq_emod_of_nonneg (by assumption)
  · rw [← Int.tmod_eq_emod_of_nonneg (by omega), Int.neg_tmod, Int.neg_neg]
end Go.Proofs.Ytigefimonifpmaa.V
