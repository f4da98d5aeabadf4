/- Calls of function values. -/
import Derived.Test.YtdeihgcgglhhcaaPeVL
set_option linter.unusedSimpArgs false
set_option linter.unusedVariables false
namespace Go.Proofs.Ytdeihgcgglhhcaa.V
open Go.RowKit
section
variable {P : Program} {E : Env} {K : St → Prop} {r : List Stp} {dd : Option Nat} {L : SL} {A : AL} {G : GH}
theorem o_callv {d : Nat} {f : FuncId} {x : Operand} {xs : List Operand} {vs : List Value} {first captured args : Array Value} {R : Value → GH → Prop} (hf : evo L x = some (.func (.func f) first captured)) (hx : evs L xs = some vs) (hp : callable P f = true) (ha : first ++ vs.toArray ++ captured = args) (hc : HC P f args G R) (h : ∀ v G', R v G' → vops P E r K (S (.set d v L) A G')) : vops P E (⟨none, dd, .callv (some d) x xs⟩ :: r) K (S L A G) := by
  subst ha
  refine ⟨f, first, captured, evo_ev hf, hp, ?_⟩
  rw [evs_ev hx]
  exact hc.mono fun v G' hr => h v G' hr
end
end Go.Proofs.Ytdeihgcgglhhcaa.V
