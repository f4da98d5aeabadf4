/- What is put is taken. -/
import Derived.Test.YtkidjjnmdpbcaaaPaE
import Derived.Test.YtkidjjnmdpbcaaaPaA
set_option linter.unusedSimpArgs false
set_option linter.unusedVariables false
namespace Go.Proofs.Ytkidjjnmdpbcaaa.V
open Go.RowKit Go.ChangeShapes Go.WideShapes
theorem ofIntM (n : Int) : ((UInt8.ofInt n).toNat : Int) = n % 256 := by
  have := wrap8 n
  rw [wrap_u8] at this
  exact this.symm
end Go.Proofs.Ytkidjjnmdpbcaaa.V
