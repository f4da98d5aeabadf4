/- The keyed hash: Write, Sum; Mac; what works. -/
import Derived.Test.YtbpjjhbkahinjaaPhSL
set_option linter.unusedSimpArgs false
set_option linter.unusedVariables false
-- @words
-- @bbs
-- @extra s_nilPf s_nilPt s_nilNf s_nilNt s_nilck s_fptr0
namespace Go.Proofs.Ytbpjjhbkahinjaa.V
open Go.RowKit Go.ChangeShapes Go.WideShapes
theorem KS.le {G0 G G' : GH} {p : Value} {x y : List UInt8} (h : KS G0 G p x y) (hl : G.le G') : KS G0 G' p x y := by
  obtain ⟨b, e, p1, p2, F1, F2, a1, a2, a3, a4, a5, a⟩ := h
  exact ⟨b, e, p1, p2, F1, F2, a1, a2, hl _ _ a3, GH.le_trans a4 hl, GH.le_trans a5 hl, a⟩
theorem HX.ptr {F : GH} {p : Value} {bs : List UInt8} (h : HX F p bs) : ∃ b, p = pt b := by
  obtain ⟨b, _, e, _⟩ := h F (GH.le_refl _); exact ⟨b, e⟩
end Go.Proofs.Ytbpjjhbkahinjaa.V
