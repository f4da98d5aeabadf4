/- A modulus is made. -/
import Derived.Test.YtfacphjjkanajaaDoorKCX
set_option linter.unusedSimpArgs false
set_option linter.unusedVariables false
-- @nums
-- @extra s_wneg s_wandc s_nadd s_naddc s_wmul s_wsub s_nilPf s_nilPt s_nilNf s_nilNt s_nilck s_fptr0
namespace Go.Proofs.YtfacphjjkanajaaDoor.V
open Go.RowKit Go.ChangeShapes Go.WideShapes
theorem and1 (x : Nat) : (x &&& 1) % 18446744073709551616 = x % 2 := by
  rw [Nat.and_one_is_mod]; omega
end Go.Proofs.YtfacphjjkanajaaDoor.V
