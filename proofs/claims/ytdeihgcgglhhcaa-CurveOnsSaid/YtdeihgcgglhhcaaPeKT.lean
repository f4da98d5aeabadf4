/- Points read. -/
import Derived.Test.YtdeihgcgglhhcaaPeKS
set_option linter.unusedSimpArgs false
set_option linter.unusedVariables false
set_option maxRecDepth 20000
-- @retp
-- @s2a
-- @extra s_eqP s_eqD s_naddc s_nadd s_naddL
-- @pre g_lload s_lloadPI s_lloadPX s_lloadPY s_lloadPP
-- @pre g_lstore s_lstoreP s_lstorePX s_lstorePY
-- @pre g_lbox s_lboxP
-- @pre g_build s_bp3 s_bp2 s_bp1 s_bp0
namespace Go.Proofs.Ytdeihgcgglhhcaa.V
open Go.RowKit Go.ChangeShapes Go.WideShapes
theorem By.arr {G : GH} {u : Value} {bs : List UInt8} {n : Nat} (h : By G u bs) (hn : n ≠ 0) (hl : n ≤ bs.length) : ∃ p, pureV (.s2a n) [u] = some p ∧ PtR G p n true (dK (bs.take n)) := by
  obtain ⟨a, cap, e, h1, h2, h3, h4⟩ := Sl.slice h
  have hlen : lenS u = bs.length := by simpa using h3.symm
  rw [hlen] at e h1 h4
  obtain ⟨b, q, rfl⟩ := h4 (by omega)
  have hr := h.rd
  rw [e] at hr
  rcases rd_some hr with ⟨h5, _⟩ | ⟨_, cs, t, fr, hG, hs, hx⟩
  · omega
  refine ⟨.pointer (some ⟨b, q, none⟩), ?_, b, q, cs, t, fr, rfl, hG, ?_⟩
  · rw [e]
    show (if n ≤ bs.length then some (Value.pointer (some ⟨b, q, none⟩)) else none) = _
    rw [if_pos hl]
  · show (if q + n ≤ cs.size then some (Value.agg (cs.extract q (q + n))) else none) = _
    rw [if_pos (by omega)]
    congr 2
    apply Array.ext'
    show _ = (bs.take n).map bv
    rw [List.map_take, hx]
    simp only [Array.toList_extract, List.extract_eq_take_drop, Nat.mul_one, List.take_take]
    congr 1
    omega
section
variable {P : Program} {E : Env} {K : St → Prop} {r : List Stp} {dd : Option Nat} {L : SL} {A : AL} {G : GH}
theorem s_naddL {d : Nat} {b : Operand} {y n : Nat} (h : vops P E r K (S (.set d (iv .i64 ((OfNat.ofNat n : Nat) + y)) L) A G)) (hx : evo L b = some (.int .i64 y) := by with_unfolding_all rfl) (h1 : (OfNat.ofNat n : Nat) + y < 9223372036854775808 := by omega) : vops P E (⟨none, dd, .pure d (.bin .add) [.const (.int .i64 (OfNat.ofNat n)), b]⟩ :: r) K (S L A G) := o_pure (evsL (c := iv .i64 n) hx) (nadd n y h1) h
theorem pcells_x {x y : List UInt8} {f : Bool} {i : Nat} (h : i < x.length) (v : UInt8) : wr (pcells x y f) i [bv v] = pcells (x.set i v) y f := by
  show (pcells x y f).setIfInBounds i (bv v) = _
  unfold pcells
  rw [List.setIfInBounds_toArray, List.set_append_left _ _ (by simpa using h), List.map_set]
theorem pcells_y {x y : List UInt8} {f : Bool} {i : Nat} (hx : x.length = 32) (h : i < y.length) (v : UInt8) : wr (pcells x y f) (32 + i) [bv v] = pcells x (y.set i v) f := by
  show (pcells x y f).setIfInBounds (32 + i) (bv v) = _
  unfold pcells
  rw [List.setIfInBounds_toArray, List.set_append_right _ _ (by simp [hx]), List.length_map, hx, show 32 + i - 32 = i by omega, List.set_append_left _ _ (by simpa using h), List.map_set]
theorem s_lstorePX {k s0 i : Nat} {o : Operand} {v : UInt8} {x y : List UInt8} {f : Bool} (h : vops P E r K (S L (.set k (pcells (x.set i v) y f) A) G)) (hp : L.get s0 = some (iv .u64 i) := by with_unfolding_all rfl) (hc : A.get k = some (pcells x y f) := by with_unfolding_all rfl) (hx : evo L o = some (bv v) := by with_unfolding_all rfl) (hl : x.length = 32 ∧ y.length = 32 := by constructor <;> assumption) (hi : i < 32 := by omega) : vops P E (⟨none, dd, .lstore k s0 1 o⟩ :: r) K (S L A G) := by
  refine o_lstore (vs := [bv v]) hp hc hx rfl ⟨rfl, ?_, rfl⟩ ?_ h
  · rw [pcells_size hl.1 hl.2, Int.toNat_natCast]; omega
  · rw [Int.toNat_natCast, pcells_x (by omega)]
theorem s_lstorePY {k s0 i : Nat} {o : Operand} {v : UInt8} {x y : List UInt8} {f : Bool} (h : vops P E r K (S L (.set k (pcells x (y.set i v) f) A) G)) (hp : L.get s0 = some (.int .u64 (32 + (i : Int))) := by with_unfolding_all rfl) (hc : A.get k = some (pcells x y f) := by with_unfolding_all rfl) (hx : evo L o = some (bv v) := by with_unfolding_all rfl) (hl : x.length = 32 ∧ y.length = 32 := by (constructor <;> first | assumption | (simp only [List.length_set]; assumption))) (hi : i < 32 := by omega) : vops P E (⟨none, dd, .lstore k s0 1 o⟩ :: r) K (S L A G) := by
  have e : Int.toNat (32 + (i : Int)) = 32 + i := by omega
  refine o_lstore (vs := [bv v]) hp hc hx rfl ⟨rfl, ?_, rfl⟩ ?_ h
  · rw [pcells_size hl.1 hl.2, e]; omega
  · rw [e, pcells_y hl.1 (by omega)]
end
end Go.Proofs.Ytdeihgcgglhhcaa.V
