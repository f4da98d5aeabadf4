/- Pieces that come in, of bulk; ShaSums. -/
import Derived.Test.YtbpjjhbkahinjaaPlSQ
import Derived.Test.YtbpjjhbkahinjaaPlSE
import Derived.Test.YtbpjjhbkahinjaaPlCE
import Derived.Test.YtbpjjhbkahinjaaRows
set_option linter.unusedSimpArgs false
set_option linter.unusedVariables false
-- @extra s_eqDt s_eqDf
namespace Go.Proofs.Ytbpjjhbkahinjaa.V
open Go.RowKit Go.ChangeShapes Go.WideShapes Go.ChangeAt
theorem one_partsB {G1 G : GH} {w pc : Value} {x : List UInt8} (h1 : By G pc x) (h2 : Own 1 G1 G w [pc]) : Parts G w [pc] [x] :=
  ⟨h2.sl, rfl, fun i hi => by
    have : i = 0 := by simpa using hi
    subst this
    exact ⟨pc, rfl, h1⟩⟩
end Go.Proofs.Ytbpjjhbkahinjaa.V
