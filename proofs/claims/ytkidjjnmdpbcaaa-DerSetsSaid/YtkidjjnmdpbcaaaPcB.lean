/- Tags; an element's head. -/
import Derived.Test.YtkidjjnmdpbcaaaPcCD
set_option linter.unusedSimpArgs false
set_option linter.unusedVariables false
namespace Go.Proofs.Ytkidjjnmdpbcaaa.V
open Go.RowKit Go.ChangeShapes Go.WideShapes
/-- The number that bytes are, the greatest first. -/
def num (l : List UInt8) : Int := l.foldl (fun n x => 256 * n + x.toNat) 0
abbrev byt (bs : List UInt8) (i : Nat) : Int := ((bs.getD i 0).toNat : Int)
def hdrF (bs : List UInt8) : Int := if byt bs 1 < 128 then 2 else 2 + (byt bs 1 - 128)
def hdrN (bs : List UInt8) : Int := if byt bs 1 < 128 then byt bs 1 else num ((bs.drop 2).take (byt bs 1 - 128).toNat)
end Go.Proofs.Ytkidjjnmdpbcaaa.V
