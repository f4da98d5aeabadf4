/- An element is taken. -/
import Derived.Test.YtkidjjnmdpbcaaaPcB
set_option linter.unusedSimpArgs false
set_option linter.unusedVariables false
namespace Go.Proofs.Ytkidjjnmdpbcaaa.V
open Go.RowKit Go.ChangeShapes Go.WideShapes
def tkC (bs : List UInt8) : List UInt8 := (bs.drop (hdrF bs).toNat).take (hdrN bs).toNat
end Go.Proofs.Ytkidjjnmdpbcaaa.V
