/- DerAgain. -/
import Derived.Test.YtkidjjnmdpbcaaaPaT
import Derived.Test.YtkidjjnmdpbcaaaPaE
import Derived.Test.YtkidjjnmdpbcaaaPaA
import Derived.Test.YtkidjjnmdpbcaaaPaVL
import Derived.Test.YtkidjjnmdpbcaaaRows
set_option linter.unusedSimpArgs false
set_option linter.unusedVariables false
namespace Go.Proofs.Ytkidjjnmdpbcaaa.V
open Go.RowKit Go.ChangeShapes Go.WideShapes
/-- An element of a row: where it lies, its tag, its content. -/
theorem elem_at {G : GH} {u a w : Value} {xs : List Value} {i : Nat} (h : Sl 2 G u xs) (hi : i < lenS u) (hx : (xs.drop (i * 2)).take 2 = [a, w]) : ∃ b q, pureV (.iptrS 2) [u, .int .i64 (i : Int)] = some (.pointer (some ⟨b, q, none⟩)) ∧ PtR G (.pointer (some ⟨b, q, none⟩)) 2 true (.agg #[a, w]) ∧ PtR G (.pointer (some ⟨b, q + 0, none⟩)) 1 false a ∧ PtR G (.pointer (some ⟨b, q + 1, none⟩)) 1 false w := by
  obtain ⟨b0, q0, cs0, e0, fr0, m1, m2, m3, m4⟩ := h.idxA (k := .i64) (j := (i : Int)) (by omega) (by omega) (by decide)
  rw [Int.toNat_natCast, hx] at m4
  have g (j : Nat) (hj : j < 2) : cs0[q0 + j]? = [a, w][j]? := by
    rw [← m4, Array.getElem?_toList, Array.getElem?_extract, if_pos (by omega)]
  refine ⟨b0, q0, m1, ⟨_, _, _, _, _, rfl, m2, ?_⟩, ⟨_, _, _, _, _, rfl, m2, g 0 (by omega)⟩, ⟨_, _, _, _, _, rfl, m2, g 1 (by omega)⟩⟩
  show (if q0 + 2 ≤ cs0.size then some (Value.agg (cs0.extract q0 (q0 + 2))) else none) = _
  rw [if_pos m3]
  congr 2
  apply Array.ext'
  rw [m4]
end Go.Proofs.Ytkidjjnmdpbcaaa.V
