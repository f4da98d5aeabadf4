/- A burst of at most 32 bits changes the sum: plain. -/
import Derived.Test.YtnddanaangolgaaPtI
set_option linter.unusedSimpArgs false
set_option linter.unusedVariables false
namespace Go.Proofs.Ytnddanaangolgaa.V
/-- The bits of bytes. -/
def bitat (l : List UInt8) (p : Nat) : Bool := (l.getD (p / 8) 0).toNat.testBit (p % 8)
end Go.Proofs.Ytnddanaangolgaa.V
