/- Library V, part M: regions that draw, by what each operation comes to. No program here. -/
import Derived.Test.YtkidjjnmdpbcaaaPcVL
set_option linter.unusedVariables false
set_option linter.unusedSimpArgs false
namespace Go.Proofs.Ytkidjjnmdpbcaaa.V
/-- What an operation comes to: a value, or something of which p is so. -/
inductive FS where
  | val (v : Value)
  | is (p : Value → GH → Prop)
section
variable {P : Program} {E : Env} {Q : Exit → St → Prop} {L : SL} {A : AL} {G : GH}
end
end Go.Proofs.Ytkidjjnmdpbcaaa.V
