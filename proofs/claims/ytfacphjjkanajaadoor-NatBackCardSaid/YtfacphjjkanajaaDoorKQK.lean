/- Which moduli may be; bits. -/
import Derived.Test.YtfacphjjkanajaaDoorKNA
import Derived.Test.YtfacphjjkanajaaDoorKCX
set_option linter.unusedSimpArgs false
set_option linter.unusedVariables false
-- @nums
-- @extra s_naddc s_nsubc s_nquoc s_nremc s_nmul
namespace Go.Proofs.YtfacphjjkanajaaDoor.V
open Go.RowKit Go.ChangeShapes Go.WideShapes
theorem dg2_len {n k : Nat} : (dg 2 n).length ≤ k ↔ n < 2 ^ k := by
  constructor
  · intro h
    have h1 := lt_dg (B := 2) (by decide) n
    have h2 := Nat.pow_le_pow_right (show 0 < 2 by decide) h
    omega
  · exact dg_len_le (by decide)
end Go.Proofs.YtfacphjjkanajaaDoor.V
