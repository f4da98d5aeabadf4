/- The keyed hash. -/
import Derived.Test.YtbpjjhbkahinjaaPhSI
set_option linter.unusedSimpArgs false
set_option linter.unusedVariables false
-- @words
-- @bbs
-- @extra s_nilPf s_nilPt s_nilNf s_nilNt s_nilck s_fptr0
namespace Go.Proofs.Ytbpjjhbkahinjaa.V
open Go.RowKit Go.ChangeShapes Go.WideShapes
def kk (key : List UInt8) : List UInt8 := if key.length > 64 then dig key else key
def kp (key : List UInt8) : List UInt8 := kk key ++ List.replicate (64 - (kk key).length) 0
def ik (key : List UInt8) : List UInt8 := (kp key).map (· ^^^ 54)
def ok (key : List UInt8) : List UInt8 := (kp key).map (· ^^^ 92)
def mac (key bs : List UInt8) : List UInt8 := dig (ok key ++ dig (ik key ++ bs))
theorem mac_len (key bs : List UInt8) : (mac key bs).length = 32 := dig_len _
theorem x8 : ∀ x : Fin 256, IntKind.u8.wrap ((BitVec.ofInt 8 (x.1 : Int) ^^^ BitVec.ofInt 8 54).toNat : Int) = ((UInt8.ofNat x.1 ^^^ 54).toNat : Int) := by decide +kernel
theorem x9 : ∀ x : Fin 256, IntKind.u8.wrap ((BitVec.ofInt 8 (x.1 : Int) ^^^ BitVec.ofInt 8 92).toNat : Int) = ((UInt8.ofNat x.1 ^^^ 92).toNat : Int) := by decide +kernel
theorem px54 (x : UInt8) : pureV (.bin .xor) [bv x, .int .u8 54] = some (bv (x ^^^ 54)) := by
  have h := x8 ⟨x.toNat, UInt8.toNat_lt x⟩
  rw [x_xor]
  refine congrArg (fun z => some (Value.int .u8 z)) (Eq.trans h ?_)
  simp
theorem px92 (x : UInt8) : pureV (.bin .xor) [bv x, .int .u8 92] = some (bv (x ^^^ 92)) := by
  have h := x9 ⟨x.toNat, UInt8.toNat_lt x⟩
  rw [x_xor]
  refine congrArg (fun z => some (Value.int .u8 z)) (Eq.trans h ?_)
  simp
section
variable {P : Program} {E : Env} {K : St → Prop} {r : List Stp} {dd : Option Nat} {L : SL} {A : AL} {G : GH}
theorem s_x54 {d : Nat} {x : Operand} {v : UInt8} (h : vops P E r K (S (.set d (bv (v ^^^ 54)) L) A G)) (hx : evo L x = some (bv v) := by with_unfolding_all rfl) : vops P E (⟨none, dd, .pure d (.bin .xor) [x, .const (.int .u8 54)]⟩ :: r) K (S L A G) := o_pure (evs2p hx) (px54 v) h
theorem s_x92 {d : Nat} {x : Operand} {v : UInt8} (h : vops P E r K (S (.set d (bv (v ^^^ 92)) L) A G)) (hx : evo L x = some (bv v) := by with_unfolding_all rfl) : vops P E (⟨none, dd, .pure d (.bin .xor) [x, .const (.int .u8 92)]⟩ :: r) K (S L A G) := o_pure (evs2p hx) (px92 v) h
end
/-- A keyed hash: x has gone into the one, y into the other. -/
def KS (G0 G : GH) (p : Value) (x y : List UInt8) : Prop := ∃ b e p1 p2, ∃ F1 F2 : GH, p = pt b ∧ G0 b = none ∧ G b = some (.cells #[p1, p2] e (0, 0)) ∧ F1.le G ∧ F2.le G ∧ HX F1 p1 x ∧ HX F2 p2 y ∧ sep F1 F2 ∧ sep F1 G0 ∧ sep F2 G0 ∧ F1 b = none ∧ F2 b = none
end Go.Proofs.Ytbpjjhbkahinjaa.V
