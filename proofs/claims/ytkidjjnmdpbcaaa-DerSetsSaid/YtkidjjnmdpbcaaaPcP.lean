/- Elements, one behind the other: where they stand; what is taken is what is put. -/
import Derived.Test.YtkidjjnmdpbcaaaPcL
import Derived.Test.YtkidjjnmdpbcaaaPcCR
set_option linter.unusedSimpArgs false
set_option linter.unusedVariables false
namespace Go.Proofs.Ytkidjjnmdpbcaaa.V
open Go.RowKit
def pos (bs : List UInt8) : Nat → Nat
  | 0 => 0
  | k + 1 => pos bs k + (nxt (bs.drop (pos bs k))).toNat
def rowK (bs : List UInt8) (k : Nat) : Int := byt (bs.drop (pos bs k)) 0
def rowD (bs : List UInt8) (k : Nat) : List UInt8 := tkC (bs.drop (pos bs k))
/-- What the k-th round of a loop over elements is told. -/
def ElemI (bs : List UInt8) (k : Nat) (x : List Value) (G0 G : GH) : Prop := ∃ w, x = [.int .i64 (pos bs k), .agg #[.int .i64 (rowK bs k), w]] ∧ Own 1 G0 G w ((rowD bs k).map bv)
theorem ElemI.unp {bs : List UInt8} {k l : Nat} {x : List Value} {G0 G : GH} {o : Obj} (hl : G l = some o) (hc : o.isCells = false) (h : ElemI bs k x G0 G) : ElemI bs k x (unp G0 l) (unp G l) := by
  obtain ⟨w, h1, h2⟩ := h
  exact ⟨w, h1, own_unp h2 hl hc⟩
end Go.Proofs.Ytkidjjnmdpbcaaa.V
