/- Numbers' lengths; answers. -/
import Derived.Test.YtfacphjjkanajaaDoorKNB
set_option linter.unusedSimpArgs false
set_option linter.unusedVariables false
namespace Go.Proofs.YtfacphjjkanajaaDoor.V
open Go.RowKit Go.ChangeShapes Go.WideShapes
theorem NumR.good {G G' : GH} {ok : Prop} {n : Nat} {e : Int} {v : Value} (h : NumR G ok n e v G') (hok : ok) : G.le G' ∧ ∃ w, v = .tuple #[w, .int .i64 0] ∧ Own 1 G G' w ((dg 18446744073709551616 n).map (iv .u64)) := by
  rcases h with ⟨h1, ⟨h2, _⟩ | ⟨_, h2⟩⟩
  · exact absurd hok h2
  · exact ⟨h1, h2⟩
theorem dg_mul_len {B : Nat} (hB : 2 ≤ B) (a b : Nat) : (dg B (a * b)).length ≤ (dg B a).length + (dg B b).length := by
  refine dg_len_le hB ?_
  have h1 := lt_dg hB a
  have h2 := lt_dg hB b
  rw [Nat.pow_add]
  by_cases h0 : b = 0
  · subst h0; rw [Nat.mul_zero]; exact Nat.mul_pos (Nat.pow_pos (by omega)) (Nat.pow_pos (by omega))
  · exact Nat.mul_lt_mul'' h1 h2
theorem dg_add_len {B : Nat} (hB : 2 ≤ B) (a b : Nat) {n : Nat} (h1 : (dg B a).length ≤ n) (h2 : (dg B b).length ≤ n) : (dg B (a + b)).length ≤ n + 1 := by
  refine dg_len_le hB ?_
  have k1 := lt_dg hB a
  have k2 := lt_dg hB b
  have k3 := Nat.pow_le_pow_right (show 0 < B by omega) h1
  have k4 := Nat.pow_le_pow_right (show 0 < B by omega) h2
  have k5 := Nat.mul_le_mul_left (B ^ n) hB
  rw [Nat.pow_succ]; omega
end Go.Proofs.YtfacphjjkanajaaDoor.V
