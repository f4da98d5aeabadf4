/- The document's reckoning, by the field's numbers. -/
import Derived.Test.YtdeihgcgglhhcaaPeKL
set_option linter.unusedSimpArgs false
set_option linter.unusedVariables false
set_option maxRecDepth 20000
-- @nums
-- @extra s_nilck s_fptr0 s_naddc s_nadd s_nsubL s_nsubc s_nquoc s_nremc s_wshr s_wremc
-- @pre g_lload s_lloadM s_lloadV s_lloadVc s_lloadW
-- @pre g_lstore s_lstoreM s_lstoreV s_lstoreVc s_lstoreW
-- @pre g_lbox s_lboxM s_lboxW
namespace Go.Proofs.Ytdeihgcgglhhcaa.V
open Go.RowKit Go.ChangeShapes Go.WideShapes
def fm (x : Fp) : Value := fw (mo x)
section
variable {P : Program} {E : Env} {K : St → Prop} {r : List Stp} {dd : Option Nat} {L : SL} {A : AL} {G : GH}
theorem s_lloadM {d k s0 : Nat} {x : Fp} {cs : Array Value} (h : vops P E r K (S (.set d (fm x) L) A G)) (hp : L.get s0 = some (.int .u64 0) := by with_unfolding_all rfl) (hc : A.get k = some cs ∧ cs = (fm x).cells := by (refine ⟨by with_unfolding_all rfl, ?_⟩; with_reducible rfl)) : vops P E (⟨none, dd, .lload d k s0 8 true⟩ :: r) K (S L A G) :=
  o_lload hp hc.1 (by rw [hc.2]; exact x_takeA (cs := (fm x).cells) rfl) h
theorem s_lboxM {d k : Nat} {o : Operand} {x : Fp} {v : Value} {ts : List Nat} (h : vops P E r K (S (.set d (.int .u64 0) (.kill ts L)) (.set k (fm x).cells A) G)) (hx : evo L o = some v ∧ v = fm x := by (refine ⟨by with_unfolding_all rfl, ?_⟩; with_reducible rfl)) (ho : onceE E.env = true := by with_unfolding_all rfl) (hk : slotsOf E.env k = some ts := by with_unfolding_all rfl) : vops P E (⟨none, dd, .lbox d k o⟩ :: r) K (S L A G) := o_lbox ho hk hx.1 (by rw [hx.2]) h
theorem s_lstoreM {k s0 : Nat} {o : Operand} {x : Fp} {v : Value} {cs : Array Value} (h : vops P E r K (S L (.set k (fm x).cells A) G)) (hp : L.get s0 = some (.int .u64 0) := by with_unfolding_all rfl) (hx : evo L o = some v ∧ v = fm x := by (refine ⟨by with_unfolding_all rfl, ?_⟩; with_reducible rfl)) (hc : A.get k = some cs ∧ cs.size = 8 := by (refine ⟨by with_unfolding_all rfl, by with_unfolding_all rfl⟩)) : vops P E (⟨none, dd, .lstore k s0 8 o⟩ :: r) K (S L A G) := by
  refine o_lstoreA (vs := (fd 4294967296 8 (mo x)).map (iv .u64)) (y := fm x) hp hc.1 (by rw [hx.1, hx.2]) rfl (by simp [fd_len]) hc.2.symm (nu_cells _ _) h
end
abbrev pf (b : Nat) : Value := .pointer (some ⟨b, 0, none⟩)
theorem addM (b : Nat) (x y : Fp) (G : GH) (hf : FO G b) : HC Try.prog 42 #[pf b, fm x, fm y] G fun v G' => v = fm (x + y) ∧ G' = G := by
  have := addR b (mo x) (mo y) G hf (mo_lt x) (mo_lt y)
  rwa [mo_add] at this
theorem subM (b : Nat) (x y : Fp) (G : GH) (hf : FO G b) : HC Try.prog 41 #[pf b, fm x, fm y] G fun v G' => v = fm (x - y) ∧ G' = G := by
  have := subR b (mo x) (mo y) G hf (mo_lt x) (Nat.le_of_lt (mo_lt y))
  rwa [mo_sub] at this
theorem mulM (b : Nat) (x y : Fp) (G : GH) (hf : FO G b) : HC Try.prog 40 #[pf b, fm x, fm y] G fun v G' => v = fm (x * y) ∧ G' = G := by
  have := mulR b (mo x) (mo y) G hf (mo_ltT x) (mo_ltT y) (Nat.mul_lt_mul_of_lt_of_le (mo_ltT x) (Nat.le_of_lt (mo_lt y)) p_pos)
  rwa [mo_mul] at this
theorem mulSqM (b n : Nat) (hn : n < 115792089237316195423570985008687907853269984665640564039457584007913129639936) (G : GH) (hf : FO G b) : HC Try.prog 40 #[pf b, fw n, fw sq256] G fun v G' => v = fm (of n) ∧ G' = G := by
  have := mulR b n sq256 G hf hn (by decide) (Nat.mul_lt_mul_of_lt_of_le hn (by decide) p_pos)
  rwa [mo_sq] at this
end Go.Proofs.Ytdeihgcgglhhcaa.V
