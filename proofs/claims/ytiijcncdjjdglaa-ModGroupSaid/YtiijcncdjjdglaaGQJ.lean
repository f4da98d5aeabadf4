/- The document's reckoning modulo a number; lent limbs. -/
import Derived.Test.YtiijcncdjjdglaaGNA
import Derived.Test.YtiijcncdjjdglaaGCX
import Derived.Test.YtiijcncdjjdglaaGNX
import Derived.Test.YtiijcncdjjdglaaGQG
set_option linter.unusedSimpArgs false
set_option linter.unusedVariables false
-- @nums
-- @extra s_waddc
namespace Go.Proofs.Ytiijcncdjjdglaa.V
open Go.RowKit Go.ChangeShapes Go.WideShapes
theorem LentN.base {k : IntKind} {m : Nat} {G0 G1 G : GH} {u : Value} {bs : List Nat} (h : LentN k m G1 G u bs) (hl : G0.le G1) : LentN k m G0 G u bs := by
  obtain ⟨b, sp, h0, h⟩ := h
  refine ⟨b, sp, ?_, h⟩
  cases e : G0 b with
  | none => rfl
  | some o => rw [hl b o e] at h0; cases h0
theorem LentN.own {k : IntKind} {m : Nat} {G0 G : GH} {u : Value} {bs : List Nat} (h : LentN k m G0 G u bs) : Own 1 G0 G u (bs.map (iv k)) := by
  obtain ⟨b, sp, h0, h⟩ := h
  exact .inr ⟨b, _, h0, h⟩
/-- A number not too long. -/
abbrev L16 (n k : Nat) : Prop := (dg 65536 n).length ≤ k
theorem L16.lt {n m k : Nat} (h : L16 m k) (hn : n ≤ m) : L16 n k := Nat.le_trans (dg_len_mono (B := 65536) (by decide) hn) h
end Go.Proofs.Ytiijcncdjjdglaa.V
