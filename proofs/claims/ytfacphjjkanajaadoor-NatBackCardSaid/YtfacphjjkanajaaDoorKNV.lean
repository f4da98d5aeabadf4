/- A number divided by one limb; a division's rest, moved down. -/
import Derived.Test.YtfacphjjkanajaaDoorKCN
set_option linter.unusedSimpArgs false
set_option linter.unusedVariables false
-- @nums
-- @extra s_wshr s_wshl s_wsubl s_wor'
namespace Go.Proofs.YtfacphjjkanajaaDoor.V
open Go.RowKit Go.ChangeShapes Go.WideShapes
theorem val_drop (B : Nat) (xs : List Nat) (i : Nat) : val B (xs.drop i) = xs.getD i 0 + B * val B (xs.drop (i + 1)) := by
  by_cases h : i < xs.length
  · rw [List.drop_eq_getElem_cons h, val, List.getD_eq_getElem?_getD, List.getElem?_eq_getElem h]; rfl
  · rw [List.drop_of_length_le (by omega), List.drop_of_length_le (by omega), getD_ge xs (by omega)]; simp [val]
end Go.Proofs.YtfacphjjkanajaaDoor.V
