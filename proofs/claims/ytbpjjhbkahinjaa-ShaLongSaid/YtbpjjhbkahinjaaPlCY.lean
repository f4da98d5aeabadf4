/- Rows of words of 32 bits: in memory, and as local arrays. -/
import Derived.Test.YtbpjjhbkahinjaaPlVL
import Derived.Test.YtbpjjhbkahinjaaPlCW
import Derived.Test.YtbpjjhbkahinjaaPlCU
set_option linter.unusedSimpArgs false
set_option linter.unusedVariables false
namespace Go.Proofs.Ytbpjjhbkahinjaa.V
open Go.RowKit
abbrev W32 := BitVec 32
def u32 (x : W32) : Value := .int .u32 (x.toNat : Int)
/-- A row of words in memory. -/
def Wu (G : GH) (u : Value) (ws : List W32) : Prop := Sl 1 G u (ws.map u32)
theorem Wu.le {G G' : GH} {u : Value} {ws : List W32} (h : Wu G u ws) (hl : G.le G') : Wu G' u ws := Sl.le h hl
theorem Wu.len {G : GH} {u : Value} {ws : List W32} (h : Wu G u ws) : lenS u = ws.length := by
  have := Sl.len h
  simpa using this.symm
theorem Wu.len_le {G : GH} {u : Value} {ws : List W32} (h : Wu G u ws) : ws.length ≤ 9223372036854775807 := by
  have := Sl.len_le h
  rw [Wu.len h] at this; exact this
theorem w_get (ws : List W32) {j : Nat} (h : j < ws.length) : (ws.map u32)[j]? = some (u32 (ws.getD j 0#32)) := by
  rw [List.getElem?_map, List.getElem?_eq_getElem h, List.getD_eq_getElem?_getD, List.getElem?_eq_getElem h]; rfl
theorem w_cells (ws : List W32) : cells1 (ws.map u32) = true := by simp [cells1, u32, Value.oneCell']
/-- A local array of words. -/
def wa (ws : List W32) : Array Value := (ws.map u32).toArray
section
variable {P : Program} {E : Env} {K : St → Prop} {r : List Stp} {dd : Option Nat} {L : SL} {A : AL} {G : GH}
theorem s_lenU {d : Nat} {x : Operand} {u : Value} {ws : List W32} (h : vops P E r K (S (.set d (.int .i64 ws.length) L) A G)) (hx : evo L x = some u := by with_unfolding_all rfl) (hb : Wu G u ws := by assumption) : vops P E (⟨none, dd, .pure d .lenL [x]⟩ :: r) K (S L A G) :=
  o_pure (vs := [u]) (by simp only [evs, hx]) (by rw [Sl.lenL hb, Wu.len hb]) h
theorem s_idxU {d : Nat} {x y : Operand} {u : Value} {k' : IntKind} {j : Int} {ws : List W32} (h : ∀ p, PtR G p 1 false (u32 (ws.getD j.toNat 0#32)) → vops P E r K (S (.set d p L) A G)) (hx : evo L x = some u := by with_unfolding_all rfl) (hb : Wu G u ws := by assumption) (hy : evo L y = some (.int k' j) := by with_unfolding_all rfl) (h0 : 0 ≤ j := by omega) (h1 : j < ws.length := by omega) : vops P E (⟨none, dd, .pure d (.iptrS 1) [x, y]⟩ :: r) K (S L A G) :=
  o_idxS hx hb hy h0 (w_get ws (by omega)) h
theorem s_hstoreU {x z : Operand} {p u : Value} {v : W32} {ws : List W32} {j : Nat} {G0 : GH} (h : ∀ G', G0.le G' → Own 1 G0 G' u ((ws.set j v).map u32) → (∀ b, blkS u ≠ some b → ∀ o, G b = some o → G' b = some o) → vops P E r K (S L A G')) (hx : evo L x = some p := by with_unfolding_all rfl) (hp : PtW G0 G p u (ws.map u32) j := by assumption) (hz : evo L z = some (.int .u32 (v.toNat : Int)) := by with_unfolding_all rfl) (hG : G0.le G := by exact (by first | assumption | exact GH.le_refl _ | ((repeat (first | exact GH.le_refl _ | assumption | refine GH.le_trans ?_ (by assumption))); first | done | fail))) : vops P E (⟨none, dd, .hstore 1 x z⟩ :: r) K (S L A G) := by
  refine o_hstoreO hx hp hz rfl hG ?_
  intro G' h1 h2 h3
  have e : (ws.map u32).set j (.int .u32 (v.toNat : Int)) = (ws.set j v).map u32 := by rw [List.map_set]; rfl
  rw [e] at h2
  exact h G' h1 h2 h3
theorem s_lloadU {d k s0 : Nat} {p : Int} {ws : List W32} (h : vops P E r K (S (.set d (u32 (ws.getD p.toNat 0#32)) L) A G)) (hp : L.get s0 = some (.int .u64 p) := by with_unfolding_all rfl) (hc : A.get k = some (wa ws) := by with_unfolding_all rfl) (hl : p.toNat < ws.length := by omega) : vops P E (⟨none, dd, .lload d k s0 1 false⟩ :: r) K (S L A G) :=
  o_lload hp hc (by rw [x_take1, wa, List.getElem?_toArray, w_get ws hl]) h
theorem s_lstoreU {k s0 : Nat} {x : Operand} {p : Int} {v : W32} {ws : List W32} (h : vops P E r K (S L (.set k (wa (ws.set p.toNat v)) A) G)) (hp : L.get s0 = some (.int .u64 p) := by with_unfolding_all rfl) (hc : A.get k = some (wa ws) := by with_unfolding_all rfl) (hx : evo L x = some (.int .u32 (v.toNat : Int)) := by with_unfolding_all rfl) (hl : p.toNat < ws.length := by omega) : vops P E (⟨none, dd, .lstore k s0 1 x⟩ :: r) K (S L A G) := by
  refine o_lstore (vs := [u32 v]) hp hc hx rfl ⟨rfl, ?_, rfl⟩ ?_ h
  · simp [wa]; omega
  · simp only [wr, wa]
    rw [List.map_set]
    simp
end
end Go.Proofs.Ytbpjjhbkahinjaa.V
