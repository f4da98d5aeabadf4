/- The digest; the program's Sum of a hash, and of pieces. -/
import Derived.Test.YtbpjjhbkahinjaaPlSF
set_option linter.unusedSimpArgs false
set_option linter.unusedVariables false
-- @words
-- @extra s_nilPf s_nilPt s_nilNf s_nilNt s_nilck s_fptr0 s_ci_64 s_mulr64 s_shr64 s_to8_64 s_shr32 s_to8_32
namespace Go.Proofs.Ytbpjjhbkahinjaa.V
open Go.RowKit Go.ChangeShapes Go.WideShapes
def dgi (hw : List W32) (i : Nat) : UInt8 := UInt8.ofNat (gw hw (i / 4) >>> (24 - i % 4 * 8)).toNat
def dgw (hw : List W32) : List UInt8 := (List.range 32).map (dgi hw)
def zs (n : Nat) : Nat := (119 - n % 64) % 64
def len64 (n : Nat) : BitVec 64 := BitVec.ofInt 64 (n : Int) * BitVec.ofInt 64 8
def l8i (m : BitVec 64) (i : Nat) : UInt8 := UInt8.ofNat (m >>> (56 - 8 * i)).toNat
def l8 (m : BitVec 64) : List UInt8 := (List.range 8).map (l8i m)
def padB (bs : List UInt8) : List UInt8 := bs ++ [128] ++ List.replicate (zs bs.length) 0 ++ l8 (len64 bs.length)
def dig (bs : List UInt8) : List UInt8 := dgw (hs (padB bs) ((padB bs).length / 64))
theorem dig_len (bs : List UInt8) : (dig bs).length = 32 := by simp [dig, dgw]
/-- A local array of bytes. -/
def bb (l : List UInt8) : Array Value := (l.map bv).toArray
def dV (l : List UInt8) : Value := .agg (bb l)
/-- A row of 32 bytes, filled from the front. -/
def fil8 (L : List UInt8) : List UInt8 := L ++ List.replicate (32 - L.length) 0
theorem fil8_len {L : List UInt8} (h : L.length ≤ 32) : (fil8 L).length = 32 := by simp [fil8]; omega
theorem fil8_set {L : List UInt8} (h : L.length < 32) (v : UInt8) : (fil8 L).set L.length v = fil8 (L ++ [v]) := by
  unfold fil8
  rw [List.set_append_right _ _ (Nat.le_refl _), Nat.sub_self, show 32 - L.length = (32 - (L ++ [v]).length) + 1 by simp; omega, List.replicate_succ, List.set_cons_zero, List.append_assoc]; rfl
theorem fil8_all {L : List UInt8} (h : L.length = 32) : fil8 L = L := by unfold fil8; rw [h]; simp
theorem map_range_succ {β : Type} (f : Nat → β) (n : Nat) : (List.range (n + 1)).map f = (List.range n).map f ++ [f n] := by rw [List.range_succ, List.map_append]; rfl
section
variable {P : Program} {E : Env} {K : St → Prop} {r : List Stp} {dd : Option Nat} {L : SL} {A : AL} {G : GH}
theorem s_lstoreBB {k s0 : Nat} {x : Operand} {p : Int} {v : UInt8} {ws : List UInt8} (h : vops P E r K (S L (.set k (bb (ws.set p.toNat v)) A) G)) (hp : L.get s0 = some (.int .u64 p) := by with_unfolding_all rfl) (hc : A.get k = some (bb ws) := by with_unfolding_all rfl) (hx : evo L x = some (bv v) := by with_unfolding_all rfl) (hl : p.toNat < ws.length := by omega) : vops P E (⟨none, dd, .lstore k s0 1 x⟩ :: r) K (S L A G) := by
  refine o_lstore (vs := [bv v]) hp hc hx rfl ⟨rfl, ?_, rfl⟩ ?_ h
  · simp [bb]; omega
  · simp only [wr, bb]
    rw [List.map_set]
    simp
theorem takeA_all (l : List Value) : takeV true l.toArray 0 l.length = some (.agg l.toArray) := by
  simp [takeV]
end
end Go.Proofs.Ytbpjjhbkahinjaa.V
