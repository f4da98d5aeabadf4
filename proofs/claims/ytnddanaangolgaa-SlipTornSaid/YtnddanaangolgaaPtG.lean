/- A slip is taken, by the document; SlipTakes. -/
import Derived.Test.YtnddanaangolgaaPtF
set_option linter.unusedSimpArgs false
set_option linter.unusedVariables false
namespace Go.Proofs.Ytnddanaangolgaa.V
open Go.RowKit Go.ChangeShapes Go.WideShapes
def sndN : Nat → PC → PC
  | 0, p => p
  | n + 1, .seq _ b => sndN n b
  | _, p => p
end Go.Proofs.Ytnddanaangolgaa.V
