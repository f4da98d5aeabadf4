/- Points as they come in and go out. -/
import Derived.Test.YtdeihgcgglhhcaaPeKM
set_option linter.unusedSimpArgs false
set_option linter.unusedVariables false
set_option maxRecDepth 20000
-- @nums
namespace Go.Proofs.Ytdeihgcgglhhcaa.V
open Go.RowKit Go.ChangeShapes Go.WideShapes
/-- A point: two rows of 32 bytes, and whether it is the far one. -/
def pcells (x y : List UInt8) (i : Bool) : Array Value := (x.map bv ++ (y.map bv ++ [Value.bool i])).toArray
def pnt (x y : List UInt8) (i : Bool) : Value := .agg (pcells x y i)
theorem pcells_size {x y : List UInt8} {i : Bool} (hx : x.length = 32) (hy : y.length = 32) : (pcells x y i).size = 65 := by simp [pcells, hx, hy]
theorem take_x {x y : List UInt8} {i : Bool} (hx : x.length = 32) : takeV true (pcells x y i) 0 32 = some (dK x) := by
  have h2 : 0 + 32 ≤ (pcells x y i).size := by simp [pcells, hx]
  show (if 0 + 32 ≤ (pcells x y i).size then some (Value.agg ((pcells x y i).extract 0 (0 + 32))) else none) = _
  rw [if_pos h2]
  congr 2
  simp only [pcells, List.extract_toArray, List.extract_eq_take_drop]
  congr 1
  simp [hx]
theorem take_y {x y : List UInt8} {i : Bool} (hx : x.length = 32) (hy : y.length = 32) : takeV true (pcells x y i) 32 32 = some (dK y) := by
  have h2 : 32 + 32 ≤ (pcells x y i).size := by simp [pcells, hx, hy]
  show (if 32 + 32 ≤ (pcells x y i).size then some (Value.agg ((pcells x y i).extract 32 (32 + 32))) else none) = _
  rw [if_pos h2]
  congr 2
  simp only [pcells, List.extract_toArray, List.extract_eq_take_drop]
  congr 1
  have e : (List.map bv x).length = 32 := by simp [hx]
  rw [List.drop_append_of_le_length (by omega), List.drop_of_length_le (by omega), List.nil_append]
  simp [hy]
theorem take_i {x y : List UInt8} {i : Bool} (hx : x.length = 32) (hy : y.length = 32) : takeV false (pcells x y i) 64 1 = some (.bool i) := by
  rw [x_take1]
  simp [pcells, hx, hy]
theorem take_p {x y : List UInt8} {i : Bool} (hx : x.length = 32) (hy : y.length = 32) : takeV true (pcells x y i) 0 65 = some (pnt x y i) := by
  exact x_takeA (cs := pcells x y i) (pcells_size hx hy)
theorem pcells_one (x y : List UInt8) (i : Bool) : cells1 (x.map bv ++ (y.map bv ++ [Value.bool i])) = true := by
  simp [cells1, bv, Value.oneCell']
section
variable {P : Program} {E : Env} {K : St → Prop} {r : List Stp} {dd : Option Nat} {L : SL} {A : AL} {G : GH} {x y : List UInt8} {i : Bool}
theorem s_lloadPX {d k s0 : Nat} (h : vops P E r K (S (.set d (dK x) L) A G)) (hp : L.get s0 = some (.int .u64 0) := by with_unfolding_all rfl) (hc : A.get k = some (pcells x y i) := by with_unfolding_all rfl) (hx : x.length = 32 := by assumption) : vops P E (⟨none, dd, .lload d k s0 32 true⟩ :: r) K (S L A G) := o_lload hp hc (take_x hx) h
theorem s_lloadPY {d k s0 : Nat} (h : vops P E r K (S (.set d (dK y) L) A G)) (hp : L.get s0 = some (.int .u64 32) := by with_unfolding_all rfl) (hc : A.get k = some (pcells x y i) := by with_unfolding_all rfl) (hx : x.length = 32 ∧ y.length = 32 := by constructor <;> assumption) : vops P E (⟨none, dd, .lload d k s0 32 true⟩ :: r) K (S L A G) := o_lload hp hc (take_y hx.1 hx.2) h
theorem s_lloadPI {d k s0 : Nat} (h : vops P E r K (S (.set d (.bool i) L) A G)) (hp : L.get s0 = some (.int .u64 64) := by with_unfolding_all rfl) (hc : A.get k = some (pcells x y i) := by with_unfolding_all rfl) (hx : x.length = 32 ∧ y.length = 32 := by constructor <;> assumption) : vops P E (⟨none, dd, .lload d k s0 1 false⟩ :: r) K (S L A G) := o_lload hp hc (take_i hx.1 hx.2) h
theorem s_lloadPP {d k s0 : Nat} (h : vops P E r K (S (.set d (pnt x y i) L) A G)) (hp : L.get s0 = some (.int .u64 0) := by with_unfolding_all rfl) (hc : A.get k = some (pcells x y i) := by with_unfolding_all rfl) (hx : x.length = 32 ∧ y.length = 32 := by constructor <;> assumption) : vops P E (⟨none, dd, .lload d k s0 65 true⟩ :: r) K (S L A G) := o_lload hp hc (take_p hx.1 hx.2) h
theorem s_lboxP {d k : Nat} {o : Operand} {ts : List Nat} (h : vops P E r K (S (.set d (.int .u64 0) (.kill ts L)) (.set k (pcells x y i) A) G)) (hx : evo L o = some (pnt x y i) := by with_unfolding_all rfl) (ho : onceE E.env = true := by with_unfolding_all rfl) (hk : slotsOf E.env k = some ts := by with_unfolding_all rfl) : vops P E (⟨none, dd, .lbox d k o⟩ :: r) K (S L A G) := o_lbox ho hk hx rfl h
theorem s_lstoreP {k s0 : Nat} {o : Operand} {cs : Array Value} (h : vops P E r K (S L (.set k (pcells x y i) A) G)) (hp : L.get s0 = some (.int .u64 0) := by with_unfolding_all rfl) (hx : evo L o = some (pnt x y i) := by with_unfolding_all rfl) (hc : A.get k = some cs ∧ cs.size = 65 := by (refine ⟨by with_unfolding_all rfl, ?_⟩; first | with_unfolding_all rfl | exact pcells_size (by assumption) (by assumption))) (hl : x.length = 32 ∧ y.length = 32 := by constructor <;> assumption) : vops P E (⟨none, dd, .lstore k s0 65 o⟩ :: r) K (S L A G) := by
  refine o_lstoreA (y := pnt x y i) hp hc.1 hx rfl (by simp [hl.1, hl.2]) hc.2.symm (pcells_one _ _ _) h
end
theorem p_ext {x y : List UInt8} {i : Bool} (hx : x.length = 32) (hy : y.length = 32) : Value.agg ((pcells x y i).extract 0 65) = pnt x y i := by
  have := pcells_size (i := i) hx hy
  rw [← this, Array.extract_size]; rfl
section
variable {L : SL} {A : AL} {G : GH} {x y : List UInt8} {i : Bool} {R : Value → GH → Prop}
theorem rvo_p {a k : Nat} (ha : L.get a = some (.int .u64 0)) (hk : A.get k = some (pcells x y i)) (hx : x.length = 32) (hy : y.length = 32) : rvo L A (.loc a k 65) = some (pnt x y i) := by
  have h1 : Nat.ble 65 (pcells x y i).size = true := by rw [pcells_size hx hy]; rfl
  simp only [rvo, ha, hk, h1, p_ext hx hy]
theorem s_retP1 {a k : Nat} {e : Exit} (h : R (pnt x y i) G) (he : e = .ret ∨ e = .normal := by first | exact .inl rfl | exact .inr rfl) (ha : L.get a = some (.int .u64 0) := by with_unfolding_all rfl) (hk : A.get k = some (pcells x y i) := by with_unfolding_all rfl) (hl : x.length = 32 ∧ y.length = 32 := by constructor <;> first | assumption | with_unfolding_all rfl) : endQ [.loc a k 65] R e (S L A G) := by
  rcases he with rfl | rfl
  · exact q_ret (vs := [pnt x y i]) (by simp only [rvos, rvo_p ha hk hl.1 hl.2]) h
  · exact q_normal (vs := [pnt x y i]) (by simp only [rvos, rvo_p ha hk hl.1 hl.2]) h
theorem s_retP2 {a k t : Nat} {v : Value} {e : Exit} (h : R (.tuple #[pnt x y i, v]) G) (he : e = .ret ∨ e = .normal := by first | exact .inl rfl | exact .inr rfl) (ha : L.get a = some (.int .u64 0) := by with_unfolding_all rfl) (hk : A.get k = some (pcells x y i) := by with_unfolding_all rfl) (ht : L.get t = some v := by with_unfolding_all rfl) (hl : x.length = 32 ∧ y.length = 32 := by constructor <;> first | assumption | with_unfolding_all rfl) : endQ [.loc a k 65, .slot t] R e (S L A G) := by
  have hr : rvos L A [.loc a k 65, .slot t] = some [pnt x y i, v] := by
    have e1 := rvo_p (L := L) (A := A) ha hk hl.1 hl.2
    have e2 : rvo L A (.slot t) = some v := ht
    simp only [rvos, e1, e2]
  rcases he with rfl | rfl
  · exact q_ret (vs := [pnt x y i, v]) hr h
  · exact q_normal (vs := [pnt x y i, v]) hr h
end
end Go.Proofs.Ytdeihgcgglhhcaa.V
