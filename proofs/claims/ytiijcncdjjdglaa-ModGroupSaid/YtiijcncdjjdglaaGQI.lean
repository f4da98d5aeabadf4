/- ModRing. -/
import Derived.Test.YtiijcncdjjdglaaGQH
set_option linter.unusedSimpArgs false
set_option linter.unusedVariables false
-- @nums
-- @extra s_nilPf s_nilPt s_nilNf s_nilNt s_nilck s_fptr0
namespace Go.Proofs.Ytiijcncdjjdglaa.V
open Go.RowKit Go.ChangeShapes Go.WideShapes
theorem ln_short {xs : List Nat} (hd : Dl 18446744073709551616 xs) {n : Nat} (h : xs.length ≤ n) : ln xs ≤ n := Nat.le_trans (ln_le hd) h
theorem ln_dg (x : Nat) : ln (dg 18446744073709551616 x) = (dg 18446744073709551616 x).length := by unfold ln; rw [val_dg (by decide)]
theorem lnM {G : GH} {b M : Nat} (h : MO G b M) (x : Nat) : ln (dg 18446744073709551616 (x % M)) ≤ 64 := by
  have h1 := h.h1
  have h8 := h.h8
  have := len_lt (Nat.mod_lt x (show M > 0 by omega))
  rw [ln_dg]; omega
theorem MulG {G : GH} {b M : Nat} (h : MO G b M) {u v : Value} {xs ys : List Nat} (hu : Nu .u64 G u xs) (hv : Nu .u64 G v ys) (hd : Dl 18446744073709551616 xs) (he : Dl 18446744073709551616 ys) (hx : ln xs ≤ 64) (hy : ln ys ≤ 64) : HC Try.prog 16 #[pt b, u, v] G fun w G' => G.le G' ∧ ∃ r, w = .tuple #[r, .int .i64 0] ∧ Own 1 G G' r ((dg 18446744073709551616 (val 18446744073709551616 xs * val 18446744073709551616 ys % M)).map (iv .u64)) :=
  (Mul' h u v xs ys hu hv hd he).mono fun v G' hr => hr.good ⟨hx, hy⟩
theorem ReduceG {G : GH} {b M : Nat} (h : MO G b M) {u : Value} {xs : List Nat} (hu : Nu .u64 G u xs) (hd : Dl 18446744073709551616 xs) (hx : ln xs ≤ 64) : HC Try.prog 14 #[pt b, u] G fun w G' => G.le G' ∧ ∃ r, w = .tuple #[r, .int .i64 0] ∧ Own 1 G G' r ((dg 18446744073709551616 (val 18446744073709551616 xs % M)).map (iv .u64)) := by
  obtain ⟨⟨um, low, ur, uq, h1, h2, h3, h4⟩, h5⟩ := h
  exact (Reduce h1 u xs hu hd).mono fun v G' hr => hr.good hx
end Go.Proofs.Ytiijcncdjjdglaa.V
