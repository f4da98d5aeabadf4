/- Small numbers (of 64 bits, signed) as natural numbers. -/
import Derived.Test.YtbpjjhbkahinjaaPhCW
set_option linter.unusedSimpArgs false
set_option linter.unusedVariables false
namespace Go.Proofs.Ytbpjjhbkahinjaa.V
open Go.RowKit
section
variable {P : Program} {E : Env} {K : St → Prop} {r : List Stp} {dd : Option Nat} {L : SL} {A : AL} {G : GH}
/-- The index into what is one's own: read and written. -/
theorem s_idxON {d : Nat} {x y : Operand} {u : Value} {k k' : IntKind} {j : Int} {xs : List Nat} {G0 : GH} (h : ∀ p, PtR G p 1 false (iv k (xs.getD j.toNat 0)) → PtW G0 G p u (xs.map (iv k)) j.toNat → vops P E r K (S (.set d p L) A G)) (hx : evo L x = some u := by with_unfolding_all rfl) (hb : Own 1 G0 G u (xs.map (iv k)) := by assumption) (hy : evo L y = some (.int k' j) := by with_unfolding_all rfl) (h0 : 0 ≤ j := by omega) (h1 : j < xs.length := by omega) : vops P E (⟨none, dd, .pure d (.iptrS 1) [x, y]⟩ :: r) K (S L A G) := by
  obtain ⟨p, hp, hw⟩ := hb.ptw (k := k') h0 (by simpa using h1)
  obtain ⟨p', hp', hr⟩ := Sl.idx hb.sl (k := k') h0 (by simpa using h1)
  have : p = p' := by rw [hp] at hp'; exact Option.some.inj hp'
  subst this
  exact o_pure (vs := [u, .int k' j]) (by simp only [evs, hx, hy]) hp (h p (hr _ (nu_get xs (by omega))) hw)
theorem s_hstoreN {x z : Operand} {p u : Value} {k : IntKind} {v : Nat} {xs : List Nat} {j : Nat} {G0 : GH} (h : ∀ G', G0.le G' → Own 1 G0 G' u ((xs.set j v).map (iv k)) → (∀ b, blkS u ≠ some b → ∀ o, G b = some o → G' b = some o) → vops P E r K (S L A G')) (hx : evo L x = some p := by with_unfolding_all rfl) (hp : PtW G0 G p u (xs.map (iv k)) j := by assumption) (hz : evo L z = some (.int k v) := by with_unfolding_all rfl) (hG : G0.le G := by exact (by first | assumption | exact GH.le_refl _ | ((repeat (first | exact GH.le_refl _ | assumption | refine GH.le_trans ?_ (by assumption))); first | done | fail))) : vops P E (⟨none, dd, .hstore 1 x z⟩ :: r) K (S L A G) := by
  refine o_hstoreO hx hp hz rfl hG ?_
  intro G' h1 h2 h3
  rw [← List.map_set] at h2
  exact h G' h1 h2 h3
end
open Go.ChangeShapes Go.WideShapes Go.ChangeAt
end Go.Proofs.Ytbpjjhbkahinjaa.V
