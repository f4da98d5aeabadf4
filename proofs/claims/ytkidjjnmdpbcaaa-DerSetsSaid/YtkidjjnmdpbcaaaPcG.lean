/- An element is put, by the document; DerPuts. -/
import Derived.Test.YtkidjjnmdpbcaaaPcE
import Derived.Test.YtkidjjnmdpbcaaaPcA
import Derived.Test.YtkidjjnmdpbcaaaPcCG
set_option linter.unusedSimpArgs false
set_option linter.unusedVariables false
namespace Go.Proofs.Ytkidjjnmdpbcaaa.V
open Go.RowKit Go.ChangeShapes Go.WideShapes
/-- Lent bytes, one behind the other. -/
def Lents (G0 G : GH) (us : List Value) (ps : List (List UInt8)) : Prop := us.length = ps.length ∧ ∀ i (h : i < ps.length), ∃ w, us[i]? = some w ∧ Lent G0 G w ps[i]
theorem Lents.parts {G0 G : GH} {u : Value} {us : List Value} {ps : List (List UInt8)} (h : Lents G0 G us ps) (hu : Sl 1 G u us) : Parts G u us ps :=
  ⟨hu, h.1, fun i hi => let ⟨w, e, k⟩ := h.2 i hi; ⟨w, e, k.sl⟩⟩
theorem Lents.le {G0 G G' : GH} {us : List Value} {ps : List (List UInt8)} (h : Lents G0 G us ps) (hl : G.le G') : Lents G0 G' us ps :=
  ⟨h.1, fun i hi => let ⟨w, e, k⟩ := h.2 i hi; ⟨w, e, k.le hl⟩⟩
end Go.Proofs.Ytkidjjnmdpbcaaa.V
