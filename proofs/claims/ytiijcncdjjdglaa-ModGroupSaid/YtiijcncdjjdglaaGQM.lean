/- ModReckons. -/
import Derived.Test.YtiijcncdjjdglaaGQK
import Derived.Test.YtiijcncdjjdglaaGCA
import Derived.Test.YtiijcncdjjdglaaGCW
set_option linter.unusedSimpArgs false
set_option linter.unusedVariables false
-- @nums
-- @extra s_maxE s_nilPf s_nilPt s_nilNf s_nilNt s_nilck s_fptr0
namespace Go.Proofs.Ytiijcncdjjdglaa.V
open Go.RowKit Go.ChangeShapes Go.WideShapes
/-- What is told: nothing wrong, or too long. -/
def ee (ok : Prop) [Decidable ok] : Int := if ok then 0 else 3
theorem ee_max (p q : Prop) [Decidable p] [Decidable q] : pureV .maxI [.int .i64 (ee p), .int .i64 (ee q)] = some (.int .i64 (ee (p ∧ q))) := by
  unfold ee
  by_cases hp : p <;> by_cases hq : q <;> simp only [hp, hq, if_true, if_false, and_self, and_true, true_and, and_false, false_and] <;> rfl
theorem s_maxE {P : Program} {E : Env} {K : St → Prop} {r : List Stp} {dd : Option Nat} {L : SL} {A : AL} {G : GH} {d : Nat} {xs : List Operand} {p q : Prop} [ip : Decidable p] [iq : Decidable q] (h : vops P E r K (S (.set d (.int .i64 (ee (p ∧ q))) L) A G)) (hx : evs L xs = some [.int .i64 (ee p), .int .i64 (ee q)] := by with_unfolding_all rfl) : vops P E (⟨none, dd, .pure d .maxI xs⟩ :: r) K (S L A G) := o_pure hx (ee_max p q) h
theorem NumR.any {G G' : GH} {ok : Prop} [Decidable ok] {n : Nat} {v : Value} (h : NumR G ok n 3 v G') : G.le G' ∧ ∃ r, v = .tuple #[r, .int .i64 (ee ok)] ∧ (¬ ok → r = .slice none 0 0) ∧ (ok → Own 1 G G' r ((dg 18446744073709551616 n).map (iv .u64))) := by
  unfold ee
  rcases h with ⟨h1, ⟨h2, rfl⟩ | ⟨h2, w, rfl, h3⟩⟩
  · exact ⟨h1, _, by rw [if_neg h2], fun _ => rfl, fun h => absurd h h2⟩
  · exact ⟨h1, w, by rw [if_pos h2], fun h => absurd h2 h, fun _ => h3⟩
section
variable {G : GH} {b M : Nat} {u v : Value} {xs ys : List Nat}
theorem ReduceN (h : MO G b M) (hu : Nu .u64 G u xs) (hd : Dl 18446744073709551616 xs) : HC Try.prog 14 #[pt b, u] G fun w G' => G.le G' ∧ ∃ r, w = .tuple #[r, .int .i64 (ee (ln xs ≤ 64))] ∧ (¬ ln xs ≤ 64 → r = .slice none 0 0) ∧ (ln xs ≤ 64 → Own 1 G G' r ((dg 18446744073709551616 (val 18446744073709551616 xs % M)).map (iv .u64))) := by
  obtain ⟨⟨um, low, ur, uq, h1, h2, h3, h4⟩, h5⟩ := h
  exact (Reduce h1 u xs hu hd).mono fun v G' hr => hr.any
theorem SubN (h : MO G b M) (hu : Nu .u64 G u xs) (hv : Nu .u64 G v ys) (hd : Dl 18446744073709551616 xs) (he : Dl 18446744073709551616 ys) : HC Try.prog 13 #[pt b, u, v] G fun w G' => G.le G' ∧ ∃ r, w = .tuple #[r, .int .i64 (ee (ln xs ≤ 64 ∧ ln ys ≤ 64))] ∧ (¬ (ln xs ≤ 64 ∧ ln ys ≤ 64) → r = .slice none 0 0) ∧ (ln xs ≤ 64 ∧ ln ys ≤ 64 → Own 1 G G' r ((dg 18446744073709551616 ((val 18446744073709551616 xs % M + M - val 18446744073709551616 ys % M) % M)).map (iv .u64))) := by
  obtain ⟨⟨um, low, ur, uq, h1, h2, h3, h4⟩, h5⟩ := h
  exact (Sub' h1 u v xs ys hu hv hd he).mono fun v G' hr => hr.any
theorem MulN (h : MO G b M) (hu : Nu .u64 G u xs) (hv : Nu .u64 G v ys) (hd : Dl 18446744073709551616 xs) (he : Dl 18446744073709551616 ys) : HC Try.prog 16 #[pt b, u, v] G fun w G' => G.le G' ∧ ∃ r, w = .tuple #[r, .int .i64 (ee (ln xs ≤ 64 ∧ ln ys ≤ 64))] ∧ (¬ (ln xs ≤ 64 ∧ ln ys ≤ 64) → r = .slice none 0 0) ∧ (ln xs ≤ 64 ∧ ln ys ≤ 64 → Own 1 G G' r ((dg 18446744073709551616 (val 18446744073709551616 xs * val 18446744073709551616 ys % M)).map (iv .u64))) :=
  (Mul' h u v xs ys hu hv hd he).mono fun v G' hr => hr.any
end
end Go.Proofs.Ytiijcncdjjdglaa.V
