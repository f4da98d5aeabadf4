/- Reckoning modulo an odd number: plain. -/
import Derived.Test.YtdeihgcgglhhcaaPeCN
set_option linter.unusedSimpArgs false
set_option linter.unusedVariables false
namespace Go.Proofs.Ytdeihgcgglhhcaa.V
/-- A low limb is made nought. -/
theorem redc_dvd {B s low M : Nat} (h : (low * M + 1) % B = 0) : (s + ((s % B) * low % B) * M) % B = 0 := by
  have e1 : ((s % B) * low % B) * M % B = s * (low * M) % B := by
    rw [Nat.mul_mod, Nat.mod_mod, ← Nat.mul_mod, Nat.mul_assoc, Nat.mul_mod, Nat.mod_mod, ← Nat.mul_mod]
  rw [Nat.add_mod, e1, ← Nat.add_mod, show s + s * (low * M) = s * (low * M + 1) by rw [Nat.mul_add, Nat.mul_one, Nat.add_comm], Nat.mul_mod, h, Nat.mul_zero, Nat.zero_mod]
/-- One more step of a product. -/
theorem mont_inv {B M a bi k row row' y u i : Nat} (h : row * B ^ i = a * bi + k * M) (hr : row' * B = row + a * y + u * M) : row' * B ^ (i + 1) = a * (bi + B ^ i * y) + (k + u * B ^ i) * M := by
  rw [Nat.pow_succ, ← Nat.mul_assoc, Nat.mul_right_comm, hr, Nat.add_mul, Nat.add_mul, h, Nat.mul_add, Nat.add_mul]
  have e1 : a * y * B ^ i = a * (B ^ i * y) := by rw [Nat.mul_assoc, Nat.mul_comm y]
  have e2 : u * M * B ^ i = u * B ^ i * M := by rw [Nat.mul_right_comm]
  rw [e1, e2]; omega
theorem mont_lt {B M a row row' y u : Nat} (hB : 0 < B) (h : row < a + M) (hy : y < B) (hu : u < B) (hr : row' * B = row + a * y + u * M) : row' < a + M := by
  have h1 : a * y ≤ a * (B - 1) := Nat.mul_le_mul_left _ (by omega)
  have h2 : u * M ≤ (B - 1) * M := Nat.mul_le_mul_right _ (by omega)
  have h3 : row' * B < (a + M) * B := by
    obtain ⟨c, rfl⟩ : ∃ c, B = c + 1 := ⟨B - 1, by omega⟩
    rw [Nat.add_sub_cancel] at h1 h2
    rw [hr, Nat.mul_add, Nat.mul_one, Nat.add_mul, Nat.mul_comm c M] at *
    have e : M * c = c * M := Nat.mul_comm _ _
    omega
  exact Nat.lt_of_mul_lt_mul_right h3
end Go.Proofs.Ytdeihgcgglhhcaa.V
