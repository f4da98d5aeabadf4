/- SlipSums. -/
import Derived.Test.YtnddanaangolgaaLC
import Derived.Test.YtnddanaangolgaaLCD
import Derived.Test.YtnddanaangolgaaLCE
import Derived.Test.YtnddanaangolgaaRows
set_option linter.unusedSimpArgs false
set_option linter.unusedVariables false
namespace Go.Proofs.Ytnddanaangolgaa.V
open Go.RowKit Go.ChangeShapes Go.WideShapes
theorem one_part {G : GH} {u w : Value} {bs : List UInt8} (hu : Sl 1 G u [w]) (hw : By G w bs) : Parts G u [w] [bs] := by
  refine ⟨hu, rfl, fun i hi => ?_⟩
  obtain rfl : i = 0 := by simp at hi; omega
  exact ⟨_, rfl, hw⟩
end Go.Proofs.Ytnddanaangolgaa.V
