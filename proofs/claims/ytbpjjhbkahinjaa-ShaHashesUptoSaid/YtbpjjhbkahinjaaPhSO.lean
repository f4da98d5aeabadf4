/- Equal digests; what works; what no call made. -/
import Derived.Test.YtbpjjhbkahinjaaPhSM
set_option linter.unusedSimpArgs false
set_option linter.unusedVariables false
-- @words
-- @bbs
-- @extra s_nilPf s_nilPt s_nilNf s_nilNt s_nilck s_fptr0
namespace Go.Proofs.Ytbpjjhbkahinjaa.V
open Go.RowKit Go.ChangeShapes Go.WideShapes
def shA : Nat → Nat → Sh
  | _, 0 => .nil
  | i, n + 1 => .one i 1 false .leafI (shA (i + 1) n)
theorem eqSh_refl (l : List UInt8) : ∀ n i, i + n ≤ l.length → eqSh (shA i n) (dV l) (dV l) = some true
  | 0, _, _ => rfl
  | n + 1, i, h => by
    have hg := bb_get (l := l) (i := i) (by omega)
    have ih := eqSh_refl l n (i + 1) (by omega)
    show (match takeV false (bb l) i 1, takeV false (bb l) i 1 with
      | some u, some v => match eqSh .leafI u v, eqSh (shA (i + 1) n) (.agg (bb l)) (.agg (bb l)) with
        | some a, some b => some (a && b)
        | _, _ => none
      | _, _ => none) = some true
    rw [hg]
    change eqSh (shA (i + 1) n) (.agg (bb l)) (.agg (bb l)) = some true at ih
    simp only [ih, eqSh, kindEq, BEq.rfl, Bool.and_true]
    rfl
section
variable {P : Program} {E : Env} {K : St → Prop} {r : List Stp} {dd : Option Nat} {L : SL} {A : AL} {G : GH}
theorem s_eqDt {d : Nat} {sh : Sh} {xs : List Operand} {l : List UInt8} (h : vops P E r K (S (.set d (.bool true) L) A G)) (hx : evs L xs = some [dV l, dV l] := by with_unfolding_all rfl) (hs : sh = shA 0 32 := by with_unfolding_all rfl) (hl : l.length = 32 := by first | assumption | exact dig_len _ | exact mac_len _ _) : vops P E (⟨none, dd, .pure d (.eqA false sh) xs⟩ :: r) K (S L A G) := by
  subst hs
  exact o_pure hx (by rw [x_eqA, eqSh_refl l 32 0 (by omega)]; rfl) h
theorem s_eqDf {d : Nat} {sh : Sh} {xs : List Operand} {l : List UInt8} (h : vops P E r K (S (.set d (.bool false) L) A G)) (hx : evs L xs = some [dV l, dV l] := by with_unfolding_all rfl) (hs : sh = shA 0 32 := by with_unfolding_all rfl) (hl : l.length = 32 := by first | assumption | exact dig_len _ | exact mac_len _ _) : vops P E (⟨none, dd, .pure d (.eqA true sh) xs⟩ :: r) K (S L A G) := by
  subst hs
  exact o_pure hx (by rw [x_eqA, eqSh_refl l 32 0 (by omega)]; rfl) h
end
/-! ### What no call made -/
end Go.Proofs.Ytbpjjhbkahinjaa.V
