/- What the laws of numbers do: lent limbs, answers. -/
import Derived.Test.YtfacphjjkanajaaDoorKNA
import Derived.Test.YtfacphjjkanajaaDoorKCX
import Derived.Test.YtfacphjjkanajaaDoorKNX
set_option linter.unusedSimpArgs false
set_option linter.unusedVariables false
-- @nums
-- @own
-- @extra s_waddc
namespace Go.Proofs.YtfacphjjkanajaaDoor.V
open Go.RowKit Go.ChangeShapes Go.WideShapes
theorem LentN.base {k : IntKind} {m : Nat} {G0 G1 G : GH} {u : Value} {bs : List Nat} (h : LentN k m G1 G u bs) (hl : G0.le G1) : LentN k m G0 G u bs := by
  obtain ⟨b, sp, h0, h⟩ := h
  refine ⟨b, sp, ?_, h⟩
  cases e : G0 b with
  | none => rfl
  | some o => rw [hl b o e] at h0; cases h0
end Go.Proofs.YtfacphjjkanajaaDoor.V
