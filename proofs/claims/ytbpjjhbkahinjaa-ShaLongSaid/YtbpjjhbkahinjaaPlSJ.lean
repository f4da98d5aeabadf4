/- A digest that is known. -/
import Derived.Test.YtbpjjhbkahinjaaPlSI
set_option linter.unusedSimpArgs false
set_option linter.unusedVariables false
-- @words
-- @bbs
namespace Go.Proofs.Ytbpjjhbkahinjaa.V
open Go.RowKit Go.ChangeShapes Go.WideShapes
set_option maxRecDepth 100000 in
theorem abc : dig [97, 98, 99] = [186, 120, 22, 191, 143, 1, 207, 234, 65, 65, 64, 222, 93, 174, 34, 35, 176, 3, 97, 163, 150, 23, 122, 156, 180, 16, 255, 97, 242, 0, 21, 173] := by
  decide +kernel
end Go.Proofs.Ytbpjjhbkahinjaa.V
