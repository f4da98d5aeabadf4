/- Library V, part N: loops over functions, calls of yield, results in boxes. No program here. -/
import Derived.Test.YtkidjjnmdpbcaaaPcVM
set_option linter.unusedVariables false
set_option linter.unusedSimpArgs false
namespace Go.Proofs.Ytkidjjnmdpbcaaa.V
section
variable {P : Program} {E : Env} {K : St → Prop} {Q : Exit → St → Prop} {r : List Stp} {dd : Option Nat} {L : SL} {A : AL} {G : GH}
def SL.many : SL → List Nat → List Value → SL
  | L, p :: ps, x :: xs => SL.many (.set p x L) ps xs
  | L, _, _ => L
end
end Go.Proofs.Ytkidjjnmdpbcaaa.V
