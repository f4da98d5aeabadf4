/- slices.Grow of nothing, slices.Concat. -/
import Derived.Test.YtkidjjnmdpbcaaaPcCA
import Derived.Test.YtkidjjnmdpbcaaaPcVK
set_option linter.unusedSimpArgs false
set_option linter.unusedVariables false
namespace Go.Proofs.Ytkidjjnmdpbcaaa.V
open Go.RowKit Go.ChangeShapes Go.WideShapes
/-- A slice of slices of bytes. -/
def Parts (G : GH) (u : Value) (us : List Value) (ps : List (List UInt8)) : Prop := Sl 1 G u us ∧ us.length = ps.length ∧ ∀ i (h : i < ps.length), ∃ w, us[i]? = some w ∧ By G w ps[i]
theorem Parts.le {G G' : GH} {u : Value} {us : List Value} {ps : List (List UInt8)} (h : Parts G u us ps) (hl : G.le G') : Parts G' u us ps :=
  ⟨h.1.le hl, h.2.1, fun i hi => let ⟨w, e, k⟩ := h.2.2 i hi; ⟨w, e, Sl.le k hl⟩⟩
end Go.Proofs.Ytkidjjnmdpbcaaa.V
