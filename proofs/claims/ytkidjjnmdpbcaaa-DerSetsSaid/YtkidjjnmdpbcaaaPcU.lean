/- The document's rows of elements. -/
import Derived.Test.YtkidjjnmdpbcaaaPcT
import Derived.Test.YtkidjjnmdpbcaaaPcC
set_option linter.unusedSimpArgs false
set_option linter.unusedVariables false
namespace Go.Proofs.Ytkidjjnmdpbcaaa.V
open Go.RowKit Go.ChangeShapes Go.WideShapes
/-- Slips in memory, one behind the other. -/
def RowsL (G : GH) (bs : List UInt8) (k : Nat) (xs : List Value) : Prop := xs.length = 2 * k ∧ ∀ i, i < k → ∃ w, (xs.drop (i * 2)).take 2 = [.int .i64 (rowK bs i), w] ∧ By G w (rowD bs i)
theorem RowsL.le {G G' : GH} {bs : List UInt8} {k : Nat} {xs : List Value} (h : RowsL G bs k xs) (hl : G.le G') : RowsL G' bs k xs :=
  ⟨h.1, fun i hi => let ⟨w, h1, h2⟩ := h.2 i hi; ⟨w, h1, Sl.le h2 hl⟩⟩
theorem RowsL.snoc {G : GH} {bs : List UInt8} {k : Nat} {xs : List Value} {w : Value} (h : RowsL G bs k xs) (hw : By G w (rowD bs k)) : RowsL G bs (k + 1) (xs ++ [.int .i64 (rowK bs k), w]) := by
  obtain ⟨h1, h2⟩ := h
  refine ⟨by simp [h1]; omega, fun i hi => ?_⟩
  by_cases e : i = k
  · subst e
    refine ⟨w, ?_, hw⟩
    rw [List.drop_append, List.drop_eq_nil_of_le (by omega), h1, show i * 2 - 2 * i = 0 by omega]; rfl
  · obtain ⟨w', e1, e2⟩ := h2 i (by omega)
    refine ⟨w', ?_, e2⟩
    rw [List.drop_append_of_le_length (by omega), List.take_append_of_le_length (by rw [List.length_drop]; omega)]; exact e1
end Go.Proofs.Ytkidjjnmdpbcaaa.V
