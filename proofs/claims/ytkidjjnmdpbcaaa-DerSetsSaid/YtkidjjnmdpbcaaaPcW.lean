/- DerAgain. -/
import Derived.Test.YtkidjjnmdpbcaaaPcT
import Derived.Test.YtkidjjnmdpbcaaaPcE
import Derived.Test.YtkidjjnmdpbcaaaPcA
import Derived.Test.YtkidjjnmdpbcaaaPcVL
import Derived.Test.YtkidjjnmdpbcaaaRows
set_option linter.unusedSimpArgs false
set_option linter.unusedVariables false
namespace Go.Proofs.Ytkidjjnmdpbcaaa.V
open Go.RowKit Go.ChangeShapes Go.WideShapes
theorem one_part1 {G : GH} {u w : Value} {bs : List UInt8} (hu : Sl 1 G u [w]) (hw : By G w bs) : Parts G u [w] [bs] :=
  ⟨hu, rfl, fun i hi => by
    have : i = 0 := by simpa using hi
    subst this
    exact ⟨w, rfl, hw⟩⟩
end Go.Proofs.Ytkidjjnmdpbcaaa.V
