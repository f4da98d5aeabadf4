/- Reckoning modulo an odd number: plain. -/
import Derived.Test.YtiijcncdjjdglaaGCN
set_option linter.unusedSimpArgs false
set_option linter.unusedVariables false
namespace Go.Proofs.Ytiijcncdjjdglaa.V
theorem mod_dvd {a b M : Nat} (h : a % M = b % M) (hab : a ≤ b) : M ∣ b - a := Nat.dvd_of_mod_eq_zero (Nat.sub_mod_eq_zero_of_mod_eq h.symm)
/-- What stands modulo M is cancelled, if it has no divisor in common with M. -/
theorem cancel_mod {R M a b : Nat} (hc : Nat.Coprime M R) (ha : a < M) (hb : b < M) (h : a * R % M = b * R % M) : a = b := by
  have key : ∀ a b : Nat, b < M → a ≤ b → a * R % M = b * R % M → a = b := fun a b hb hab h => by
    have h1 := mod_dvd h (Nat.mul_le_mul_right R hab)
    rw [← Nat.sub_mul] at h1
    have h2 : M ∣ b - a := hc.dvd_of_dvd_mul_right h1
    rcases Nat.eq_zero_or_pos (b - a) with h3 | h3
    · omega
    · have := Nat.le_of_dvd h3 h2; omega
  rcases Nat.le_total a b with hab | hab
  · exact key a b hb hab h
  · exact (key b a ha hab h.symm).symm
theorem add_cancel_mod {M a b c : Nat} (h : (a + c) % M = (b + c) % M) : a % M = b % M := by
  have key : ∀ a b : Nat, a ≤ b → (a + c) % M = (b + c) % M → a % M = b % M := fun a b hab h => by
    have h1 := mod_dvd h (Nat.add_le_add_right hab c)
    obtain ⟨k, hk⟩ := h1
    have : b = a + M * k := by omega
    rw [this, Nat.add_mul_mod_self_left]
  rcases Nat.le_total a b with hab | hab
  · exact key a b hab h
  · exact (key b a hab h.symm).symm
theorem odd_coprime {M : Nat} (h : M % 2 = 1) (n : Nat) : Nat.Coprime M (2 ^ n) := by
  have h1 : Nat.Coprime 2 M := by
    show Nat.gcd 2 M = 1
    rw [Nat.gcd_rec, h]; rfl
  exact (h1.pow_left n).symm
theorem odd_coprime64 {M : Nat} (h : M % 2 = 1) (n : Nat) : Nat.Coprime M (18446744073709551616 ^ n) := by
  have : (18446744073709551616 : Nat) ^ n = 2 ^ (64 * n) := by rw [Nat.pow_mul]
  rw [this]; exact odd_coprime h _
/-- A low limb is made nought. -/
theorem redc_dvd {B s low M : Nat} (h : (low * M + 1) % B = 0) : (s + ((s % B) * low % B) * M) % B = 0 := by
  have e1 : ((s % B) * low % B) * M % B = s * (low * M) % B := by
    rw [Nat.mul_mod, Nat.mod_mod, ← Nat.mul_mod, Nat.mul_assoc, Nat.mul_mod, Nat.mod_mod, ← Nat.mul_mod]
  rw [Nat.add_mod, e1, ← Nat.add_mod, show s + s * (low * M) = s * (low * M + 1) by rw [Nat.mul_add, Nat.mul_one, Nat.add_comm], Nat.mul_mod, h, Nat.mul_zero, Nat.zero_mod]
theorem redc_low {B low M m0 : Nat} (hm : m0 = M % B) (h : (low * m0 + 1) % B = 0) : (low * M + 1) % B = 0 := by
  have e : low * M % B = low * m0 % B := by rw [hm, Nat.mul_mod, Nat.mul_mod low (M % B), Nat.mod_mod]
  rw [Nat.add_mod, e, ← Nat.add_mod]; exact h
/-- One more step of a product. -/
theorem mont_inv {B M a bi k row row' y u i : Nat} (h : row * B ^ i = a * bi + k * M) (hr : row' * B = row + a * y + u * M) : row' * B ^ (i + 1) = a * (bi + B ^ i * y) + (k + u * B ^ i) * M := by
  rw [Nat.pow_succ, ← Nat.mul_assoc, Nat.mul_right_comm, hr, Nat.add_mul, Nat.add_mul, h, Nat.mul_add, Nat.add_mul]
  have e1 : a * y * B ^ i = a * (B ^ i * y) := by rw [Nat.mul_assoc, Nat.mul_comm y]
  have e2 : u * M * B ^ i = u * B ^ i * M := by rw [Nat.mul_right_comm]
  rw [e1, e2]; omega
theorem mont_lt {B M a row row' y u : Nat} (hB : 0 < B) (h : row < a + M) (hy : y < B) (hu : u < B) (hr : row' * B = row + a * y + u * M) : row' < a + M := by
  have h1 : a * y ≤ a * (B - 1) := Nat.mul_le_mul_left _ (by omega)
  have h2 : u * M ≤ (B - 1) * M := Nat.mul_le_mul_right _ (by omega)
  have h3 : row' * B < (a + M) * B := by
    obtain ⟨c, rfl⟩ : ∃ c, B = c + 1 := ⟨B - 1, by omega⟩
    rw [Nat.add_sub_cancel] at h1 h2
    rw [hr, Nat.mul_add, Nat.mul_one, Nat.add_mul, Nat.mul_comm c M] at *
    have e : M * c = c * M := Nat.mul_comm _ _
    omega
  exact Nat.lt_of_mul_lt_mul_right h3
/-- What a product modulo M comes to, by what it gives R times. -/
theorem mont_eq {R M t v : Nat} (hc : Nat.Coprime M R) (ht : t < M) (hM : 0 < M) (h : t * R % M = v * R % M) : t = v % M := by
  refine cancel_mod hc ht (Nat.mod_lt _ hM) ?_
  rw [h, Nat.mul_mod (v % M), Nat.mod_mod, ← Nat.mul_mod]
theorem mont_in {R M t x q : Nat} (hc : Nat.Coprime M R) (ht : t < M) (hM : 0 < M) (hq : q = (R % M) * (R % M) % M) (h : t * R % M = x * q % M) : t = x * R % M := by
  refine mont_eq hc ht hM ?_
  rw [h, hq, Nat.mul_mod, Nat.mod_mod, ← Nat.mul_mod R R, ← Nat.mul_mod, Nat.mul_assoc]
theorem mont_mul {R M t u w : Nat} (hc : Nat.Coprime M R) (ht : t < M) (hM : 0 < M) (h : t * R % M = (u * R % M) * (w * R % M) % M) : t = u * w * R % M := by
  refine mont_eq hc ht hM ?_
  rw [h, ← Nat.mul_mod]
  congr 1
  rw [Nat.mul_mul_mul_comm, Nat.mul_assoc (u * w)]
theorem mont_out {R M t u y : Nat} (hc : Nat.Coprime M R) (ht : t < M) (hM : 0 < M) (h : t * R % M = (u * R % M) * y % M) : t = u * y % M := by
  refine mont_eq hc ht hM ?_
  rw [h, Nat.mul_mod, Nat.mod_mod, ← Nat.mul_mod, Nat.mul_right_comm]
/-- The inverse of an odd number modulo 2 to the power 64, by halves of bits. -/
theorem newton {m x : Int} {k : Nat} (h : (2 : Int) ^ k ∣ m * x - 1) : (2 : Int) ^ (2 * k) ∣ m * (x * (2 - m * x)) - 1 := by
  obtain ⟨t, ht⟩ := h
  refine ⟨-(t * t), ?_⟩
  have e : m * (x * (2 - m * x)) - 1 = -((m * x - 1) * (m * x - 1)) := by
    have : m * (x * (2 - m * x)) = (m * x) * (2 - (m * x)) := by rw [Int.mul_assoc]
    rw [this]
    generalize m * x = z
    have h1 : z * (2 - z) = 2 * z - z * z := by rw [Int.mul_sub, Int.mul_comm z 2]
    have h2 : (z - 1) * (z - 1) = z * z - 2 * z + 1 := by rw [Int.sub_mul, Int.mul_sub, Int.mul_sub]; omega
    rw [h1, h2]; omega
  rw [e, ht, Nat.two_mul, Int.pow_add]
  have : (2 : Int) ^ k * t * ((2 : Int) ^ k * t) = (2 : Int) ^ k * (2 : Int) ^ k * (t * t) := by
    rw [Int.mul_assoc, Int.mul_assoc, Int.mul_left_comm t]
  rw [this, Int.mul_neg]
theorem newton_w {m x j k : Nat} (h : (2 : Int) ^ k ∣ (m : Int) * x - 1) (hj : j ≤ 2 * k) (hj2 : j ≤ 64) : (2 : Int) ^ j ∣ (m : Int) * ((x * ((2 + 18446744073709551616 - (m * x) % 18446744073709551616) % 18446744073709551616) % 18446744073709551616 : Nat) : Int) - 1 := by
  have h1 := newton h
  have h2 : (2 : Int) ^ j ∣ (m : Int) * ((x : Int) * (2 - (m : Int) * x)) - 1 := Int.dvd_trans ⟨(2 : Int) ^ (2 * k - j), by rw [← Int.pow_add, show j + (2 * k - j) = 2 * k by omega]⟩ h1
  have h3 : ∃ s : Int, ((x * ((2 + 18446744073709551616 - (m * x) % 18446744073709551616) % 18446744073709551616) % 18446744073709551616 : Nat) : Int) = (x : Int) * (2 - (m : Int) * x) + 18446744073709551616 * s := by
    have e1 : ∃ a : Int, (((2 + 18446744073709551616 - (m * x) % 18446744073709551616) % 18446744073709551616 : Nat) : Int) = 2 - ((m * x : Nat) : Int) + 18446744073709551616 * a := by
      generalize m * x = z
      exact ⟨(((2 + 18446744073709551616 - z % 18446744073709551616) % 18446744073709551616 : Nat) - (2 - (z : Int))) / 18446744073709551616, by omega⟩
    obtain ⟨a, ha⟩ := e1
    generalize (2 + 18446744073709551616 - (m * x) % 18446744073709551616) % 18446744073709551616 = y at *
    have e2 : ((x * y % 18446744073709551616 : Nat) : Int) = (x : Int) * y - 18446744073709551616 * ((x * y / 18446744073709551616 : Nat) : Int) := by
      have := Nat.div_add_mod (x * y) 18446744073709551616
      have h4 : ((x * y : Nat) : Int) = (x : Int) * (y : Int) := Int.natCast_mul x y
      omega
    refine ⟨(x : Int) * a - ((x * y / 18446744073709551616 : Nat) : Int), ?_⟩
    rw [e2, ha, Int.mul_add, Int.natCast_mul, Int.mul_sub 18446744073709551616, Int.mul_left_comm (x : Int) 18446744073709551616]; omega
  obtain ⟨s, hs⟩ := h3
  rw [hs]
  obtain ⟨c, hc⟩ := h2
  have h5 : (18446744073709551616 : Int) = (2 : Int) ^ j * (2 : Int) ^ (64 - j) := by rw [← Int.pow_add, show j + (64 - j) = 64 by omega]; rfl
  refine ⟨c + (m : Int) * ((2 : Int) ^ (64 - j) * s), ?_⟩
  rw [Int.mul_add, Int.mul_add, ← hc, Int.mul_left_comm ((2 : Int) ^ j) (m : Int), ← Int.mul_assoc ((2 : Int) ^ j), ← h5]; omega
theorem newton0 {m : Nat} (h : m % 2 = 1) : (2 : Int) ^ 3 ∣ (m : Int) * m - 1 := by
  have h1 : ∃ t : Nat, m = 2 * t + 1 := ⟨m / 2, by omega⟩
  obtain ⟨t, rfl⟩ := h1
  have h2 : ∃ s : Nat, t * (t + 1) = 2 * s := by
    obtain ⟨k, hk⟩ : ∃ k, t = 2 * k ∨ t = 2 * k + 1 := ⟨t / 2, by omega⟩
    rcases hk with rfl | rfl
    · exact ⟨k * (2 * k + 1), by rw [Nat.mul_assoc]⟩
    · exact ⟨(2 * k + 1) * (k + 1), by rw [show 2 * k + 1 + 1 = 2 * (k + 1) by omega, Nat.mul_left_comm]⟩
  obtain ⟨s, hs⟩ := h2
  refine ⟨(s : Int), ?_⟩
  have h3 : ((t * (t + 1) : Nat) : Int) = (t : Int) * t + t := by rw [Nat.mul_add, Int.natCast_add, Int.natCast_mul]; simp
  rw [hs] at h3
  have h4 : ((2 * t + 1 : Nat) : Int) * ((2 * t + 1 : Nat) : Int) = 4 * ((t : Int) * t) + 4 * t + 1 := by
    have e : ((2 * t + 1 : Nat) : Int) = 2 * (t : Int) + 1 := by omega
    rw [e, Int.mul_add, Int.mul_one, Int.add_mul, Int.one_mul, Int.mul_assoc, Int.mul_left_comm (t : Int)]; omega
  rw [h4]; omega
/-- What is negated gives -1. -/
theorem newton_low {m x : Nat} (h : (2 : Int) ^ 64 ∣ (m : Int) * x - 1) (hx : x < 18446744073709551616) : ((18446744073709551616 - x) % 18446744073709551616 * m + 1) % 18446744073709551616 = 0 := by
  obtain ⟨c, hc⟩ := h
  have e : (2 : Int) ^ 64 = 18446744073709551616 := by decide
  rw [e] at hc
  by_cases h0 : x = 0
  · subst h0; exfalso; rw [Int.natCast_zero, Int.mul_zero] at hc; omega
  · rw [Nat.mod_eq_of_lt (show 18446744073709551616 - x < 18446744073709551616 by omega), Nat.sub_mul]
    have h1 : x * m ≤ 18446744073709551616 * m := Nat.mul_le_mul_right _ (by omega)
    have h2 : ((x * m : Nat) : Int) = (m : Int) * x := by rw [Int.natCast_mul, Int.mul_comm]
    have h3 : ((18446744073709551616 * m : Nat) : Int) = 18446744073709551616 * (m : Int) := Int.natCast_mul _ _
    generalize x * m = z at *
    omega
end Go.Proofs.Ytiijcncdjjdglaa.V
