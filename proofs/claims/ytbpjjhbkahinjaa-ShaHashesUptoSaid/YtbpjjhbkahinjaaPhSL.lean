/- Key. -/
import Derived.Test.YtbpjjhbkahinjaaPhSK
set_option linter.unusedSimpArgs false
set_option linter.unusedVariables false
-- @words
-- @bbs
-- @extra s_nilPf s_nilPt s_nilNf s_nilNt s_nilck s_fptr0 s_x54 s_x92
namespace Go.Proofs.Ytbpjjhbkahinjaa.V
open Go.RowKit Go.ChangeShapes Go.WideShapes
theorem bb_get {l : List UInt8} {i : Nat} (h : i < l.length) : takeV false (bb l) i 1 = some (bv (l.getD i 0)) := by
  rw [x_take1, bb, List.getElem?_toArray, List.getElem?_map, List.getElem?_eq_getElem h, List.getD_eq_getElem?_getD, List.getElem?_eq_getElem h]; rfl
theorem KS.base {G0 G1 G : GH} {p : Value} {x y : List UInt8} (h : KS G1 G p x y) (hl : G0.le G1) : KS G0 G p x y := by
  obtain ⟨b, e, p1, p2, F1, F2, a1, a2, a3, a4, a5, a6, a7, a8, a9, a10, a11⟩ := h
  refine ⟨b, e, p1, p2, F1, F2, a1, ?_, a3, a4, a5, a6, a7, a8, a9.sub hl, a10.sub hl, a11⟩
  cases e : G0 b with
  | none => rfl
  | some o => rw [hl _ _ e] at a2; cases a2
theorem off_mono {F G G' : GH} (h : G.le G') : (off F G).le (off F G') := fun c o hc => by
  cases e : F c with
  | none => rw [off_get e] at hc ⊢; exact h c o hc
  | some x => rw [off_none e] at hc; cases hc
theorem upd_none {G0 G : GH} {b : Nat} (h : G0.le G) (hb : G b = none) : G0 b = none := by
  cases e : G0 b with
  | none => rfl
  | some o => rw [h _ _ e] at hb; cases hb
end Go.Proofs.Ytbpjjhbkahinjaa.V
