/- One element; DerTakes. -/
import Derived.Test.YtkidjjnmdpbcaaaPbC
import Derived.Test.YtkidjjnmdpbcaaaPbA
import Derived.Test.YtkidjjnmdpbcaaaPbCE
set_option linter.unusedSimpArgs false
set_option linter.unusedVariables false
namespace Go.Proofs.Ytkidjjnmdpbcaaa.V
open Go.RowKit Go.ChangeShapes Go.WideShapes
theorem tk_in {bs : List UInt8} (h : tkE bs = 0) : hdrE bs = 0 ∧ hdrN bs ≤ (bs.length : Int) - hdrF bs := by
  unfold tkE at h
  split at h
  · omega
  · split at h <;> omega
end Go.Proofs.Ytkidjjnmdpbcaaa.V
