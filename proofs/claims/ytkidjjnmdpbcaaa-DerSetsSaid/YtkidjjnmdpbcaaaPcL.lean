/- Elements all the way down: what is right. -/
import Derived.Test.YtkidjjnmdpbcaaaPcE
import Derived.Test.YtkidjjnmdpbcaaaPcA
set_option linter.unusedSimpArgs false
set_option linter.unusedVariables false
namespace Go.Proofs.Ytkidjjnmdpbcaaa.V
/-- How many, where it is wrong, and how. -/
structure Chk where
  many : Int
  pos : Int
  err : Int
def inD (bs : List UInt8) : Prop := byt bs 0 / 32 % 2 = 1
instance (bs : List UInt8) : Decidable (inD bs) := by unfold inD; infer_instance
def nxt (bs : List UInt8) : Int := hdrF bs + hdrN bs
end Go.Proofs.Ytkidjjnmdpbcaaa.V
