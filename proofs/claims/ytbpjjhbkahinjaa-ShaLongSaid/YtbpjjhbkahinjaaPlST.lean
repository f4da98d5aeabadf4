/- ShaPieces. -/
import Derived.Test.YtbpjjhbkahinjaaPlSQ
import Derived.Test.YtbpjjhbkahinjaaPlCE
import Derived.Test.YtbpjjhbkahinjaaPlVL
import Derived.Test.YtbpjjhbkahinjaaProg
import Derived.KernelRfl
import Derived.Test.YtbpjjhbkahinjaaPlVM
set_option linter.unusedSimpArgs false
set_option linter.unusedVariables false
-- @extra s_nilPf s_nilPt s_nilNf s_nilNt s_nilck s_fptr0 s_eqDt s_eqDf
namespace Go.Proofs.Ytbpjjhbkahinjaa.V
open Go.RowKit Go.ChangeShapes Go.WideShapes
theorem pm_of {ps : List (List UInt8)} {n : Nat} (h : ps.flatten.length ≤ n) (hn : n ≤ 140737488351232) : Pm ps := ⟨by omega, fun i hi => by
  have := flat_take hi
  have b := flat_len ps (i + 1)
  rw [this, List.length_append] at b
  omega⟩
end Go.Proofs.Ytbpjjhbkahinjaa.V
