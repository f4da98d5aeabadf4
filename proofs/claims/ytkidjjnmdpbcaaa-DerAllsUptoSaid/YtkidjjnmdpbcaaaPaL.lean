/- Elements all the way down: what is right. -/
import Derived.Test.YtkidjjnmdpbcaaaPaJ
set_option linter.unusedSimpArgs false
set_option linter.unusedVariables false
namespace Go.Proofs.Ytkidjjnmdpbcaaa.V
/-- How many, where it is wrong, and how. -/
structure Chk where
  many : Int
  pos : Int
  err : Int
def inD (bs : List UInt8) : Prop := byt bs 0 / 32 % 2 = 1
instance (bs : List UInt8) : Decidable (inD bs) := by unfold inD; infer_instance
def nxt (bs : List UInt8) : Int := hdrF bs + hdrN bs
theorem tk_bounds {bs : List UInt8} (h : tkE bs = 0) : 2 ≤ hdrF bs ∧ hdrF bs ≤ 5 ∧ 0 ≤ hdrN bs ∧ hdrN bs ≤ 16777215 ∧ nxt bs ≤ bs.length ∧ ((tkC bs).length : Int) = hdrN bs ∧ tagP (byt bs 0) := by
  obtain ⟨h0, h1⟩ := tk_in h
  obtain ⟨f1, f2, f3, n1, n2, tg⟩ := hdr_ok h0
  refine ⟨f1, f2, n1, n2, by unfold nxt; omega, ?_, tg⟩
  unfold tkC; rw [List.length_take, List.length_drop]; omega
end Go.Proofs.Ytkidjjnmdpbcaaa.V
