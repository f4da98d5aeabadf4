/- Is a point one of the curve: the program's at, the document's On. -/
import Derived.Test.YtdeihgcgglhhcaaPeKP
set_option linter.unusedSimpArgs false
set_option linter.unusedVariables false
set_option maxRecDepth 20000
-- @nums
-- @extra s_eqP s_eqF s_eqM s_eqD s_nilck s_fptr0
-- @pre g_lload s_lloadL s_lloadF s_lloadM s_lloadPI s_lloadPX s_lloadPY s_lloadPP
-- @pre g_lstore s_lstoreL s_lstoreF s_lstoreM s_lstoreP
-- @pre g_lbox s_lboxF s_lboxP
-- @pre g_build s_bl3 s_bl1 s_bl0 s_bp3 s_bp2 s_bp1 s_bp0
namespace Go.Proofs.Ytdeihgcgglhhcaa.V
open Go.RowKit Go.ChangeShapes Go.WideShapes
/-- Do two numbers lie on the curve? -/
def onC (X Y : Fp) : Bool := decide (Y * Y = X * X * X - (X + X + X) + of co256)
def onP (x y : List UInt8) (i : Bool) : Bool := if i then decide (x = z0 ∧ y = z0) else decide (be x < p256) && (decide (be y < p256) && onC (of (be x)) (of (be y)))
theorem len4 (X : Fp) : ((fd 18446744073709551616 4 (mo X)).map (iv .u64)).length = 4 := by simp [fd_len]
/-- A place: three numbers. -/
def lcells (X Y Z : Fp) : Array Value := ((fd 18446744073709551616 4 (mo X)).map (iv .u64) ++ ((fd 18446744073709551616 4 (mo Y)).map (iv .u64) ++ (fd 18446744073709551616 4 (mo Z)).map (iv .u64))).toArray
def plc (X Y Z : Fp) : Value := .agg (lcells X Y Z)
theorem pure_build' (z : Array Value) (ps : List (Nat × Nat)) (vs : List Value) : pureV (.build z ps) vs = (fillV ps vs z).map .agg := rfl
def zl : List Value := List.replicate 12 (iv .u64 0)
theorem build_l3 {a b c : List Value} {u v w : Value} (hu : u.cells = a.toArray) (hv : v.cells = b.toArray) (hw : w.cells = c.toArray) (ha : a.length = 4) (hb : b.length = 4) (hc : c.length = 4) : pureV (.build zl.toArray [(0, 4), (4, 4), (8, 4)]) [u, v, w] = some (.agg (a ++ (b ++ c)).toArray) := by
  rw [pure_build', fill_step hu ha (by simp [zl]), fill_step hv hb (by simp [zl, ha]), fill_step hw hc (by simp [zl, ha, hb])]
  have e1 : List.take 8 a = a := List.take_of_length_le (by omega)
  have e2 : List.drop 12 a = [] := List.drop_of_length_le (by omega)
  have e3 : List.drop 8 b = [] := List.drop_of_length_le (by omega)
  show some (Value.agg _) = _
  simp [zl, List.take_append, List.drop_append, ha, hb, hc, e1, e2, e3]
theorem build_l1 {b : List Value} {v : Value} (hv : v.cells = b.toArray) (hb : b.length = 4) : pureV (.build zl.toArray [(4, 4)]) [v] = some (.agg ([iv .u64 0, iv .u64 0, iv .u64 0, iv .u64 0] ++ (b ++ [iv .u64 0, iv .u64 0, iv .u64 0, iv .u64 0])).toArray) := by
  rw [pure_build', fill_step hv hb (by simp [zl])]
  rfl
theorem fd_mo0 : (fd 18446744073709551616 4 (mo 0)).map (iv .u64) = [iv .u64 0, iv .u64 0, iv .u64 0, iv .u64 0] := rfl
theorem buildL3 (X Y Z : Fp) : pureV (.build zl.toArray [(0, 4), (4, 4), (8, 4)]) [fv X, fv Y, fv Z] = some (plc X Y Z) := build_l3 rfl rfl rfl (len4 X) (len4 Y) (len4 Z)
theorem buildL1 (Y : Fp) : pureV (.build zl.toArray [(4, 4)]) [fv Y] = some (plc 0 Y 0) := by
  have := build_l1 (v := fv Y) (b := (fd 18446744073709551616 4 (mo Y)).map (iv .u64)) rfl (len4 Y)
  rw [this]
  unfold plc lcells
  rw [fd_mo0]
theorem buildL0 : pureV (.build zl.toArray []) [] = some (plc 0 0 0) := by
  unfold plc lcells
  rw [fd_mo0]; rfl
theorem lc_size (X Y Z : Fp) : (lcells X Y Z).size = 12 := by simp [lcells, fd_len]
section
variable {P : Program} {E : Env} {K : St → Prop} {r : List Stp} {dd : Option Nat} {L : SL} {A : AL} {G : GH}
theorem s_bl3 {d : Nat} {z : Array Value} {xs : List Operand} {X Y Z : Fp} {u v w : Value} (h : vops P E r K (S (.set d (plc X Y Z) L) A G)) (hx : evs L xs = some [u, v, w] ∧ u = fv X ∧ v = fv Y ∧ w = fv Z := by (refine ⟨by with_unfolding_all rfl, ?_, ?_, ?_⟩ <;> with_reducible rfl)) (hz : z = zl.toArray := by with_unfolding_all rfl) : vops P E (⟨none, dd, .pure d (.build z [(0, 4), (4, 4), (8, 4)]) xs⟩ :: r) K (S L A G) := by
  subst hz
  obtain ⟨hx, rfl, rfl, rfl⟩ := hx
  exact o_pure hx (buildL3 X Y Z) h
theorem s_bl1 {d : Nat} {z : Array Value} {xs : List Operand} {Y : Fp} {u : Value} (h : vops P E r K (S (.set d (plc 0 Y 0) L) A G)) (hx : evs L xs = some [u] ∧ u = fv Y := by (refine ⟨by with_unfolding_all rfl, ?_⟩; with_reducible rfl)) (hz : z = zl.toArray := by with_unfolding_all rfl) : vops P E (⟨none, dd, .pure d (.build z [(4, 4)]) xs⟩ :: r) K (S L A G) := by
  subst hz
  obtain ⟨hx, rfl⟩ := hx
  exact o_pure hx (buildL1 Y) h
theorem s_bl0 {d : Nat} {z : Array Value} (h : vops P E r K (S (.set d (plc 0 0 0) L) A G)) (hz : z = zl.toArray := by with_unfolding_all rfl) : vops P E (⟨none, dd, .pure d (.build z []) []⟩ :: r) K (S L A G) := by
  subst hz
  exact o_pure (vs := []) rfl buildL0 h
theorem s_lstoreL {k s0 : Nat} {o : Operand} {X Y Z : Fp} {v : Value} {cs : Array Value} (h : vops P E r K (S L (.set k (lcells X Y Z) A) G)) (hp : L.get s0 = some (.int .u64 0) := by with_unfolding_all rfl) (hx : evo L o = some v ∧ v = plc X Y Z := by (refine ⟨by with_unfolding_all rfl, ?_⟩; with_reducible rfl)) (hc : A.get k = some cs ∧ cs.size = 12 := by (refine ⟨by with_unfolding_all rfl, ?_⟩; first | exact lc_size _ _ _ | with_unfolding_all rfl)) : vops P E (⟨none, dd, .lstore k s0 12 o⟩ :: r) K (S L A G) := by
  refine o_lstoreA (y := plc X Y Z) hp hc.1 (by rw [hx.1, hx.2]) rfl (by simp [fd_len]) hc.2.symm ?_ h
  simp [cells1, Value.oneCell']
theorem s_lloadL {d k s0 : Nat} {X Y Z : Fp} {cs : Array Value} (h : vops P E r K (S (.set d (plc X Y Z) L) A G)) (hp : L.get s0 = some (.int .u64 0) := by with_unfolding_all rfl) (hc : A.get k = some cs ∧ cs = lcells X Y Z := by (refine ⟨by with_unfolding_all rfl, ?_⟩; with_reducible rfl)) : vops P E (⟨none, dd, .lload d k s0 12 true⟩ :: r) K (S L A G) :=
  o_lload hp hc.1 (by rw [hc.2]; exact x_takeA (cs := lcells X Y Z) (lc_size X Y Z)) h
end
theorem l_ext (X Y Z : Fp) : Value.agg ((lcells X Y Z).extract 0 12) = plc X Y Z := by
  have h := lc_size X Y Z
  have := Array.extract_size (xs := lcells X Y Z)
  rw [h] at this
  rw [this]; rfl
/-- Where a point lies, or that it is none of the curve. -/
def atV (x y : List UInt8) (i : Bool) : Value := if i then .tuple #[plc 0 1 0, .bool (decide (x = z0 ∧ y = z0))] else if be x < p256 ∧ be y < p256 then .tuple #[plc (of (be x)) (of (be y)) 1, .bool (onC (of (be x)) (of (be y)))] else .tuple #[plc 0 0 0, .bool false]
theorem farF (G : GH) : HC Try.prog 33 #[] G fun v G' => v = plc 0 1 0 ∧ G.le G' := by
  refine HC.start comp33 rfl ?_; unfold pc33
  (repeat' (first | (with_reducible refine i_ops ?_; first | (refine g_mv ?_; refine s_mv ?_) | refine o_nil ?_ | (refine g_some ?_; first | refine s_g_t ?_ | refine s_g_f ?_ | refine s_g_f' ?_ | refine s_g_u ?_) | (refine g_pick ?_; first | refine s_pick_t ?_ | refine s_pick_f ?_) | (refine g_build ?_; first | refine s_bl3 ?_ | refine s_bl1 ?_ | refine s_bl0 ?_ | refine s_bp3 ?_ | refine s_bp2 ?_ | refine s_bp1 ?_ | refine s_bp0 ?_ | refine s_build ?_ | refine s_buildP ?_) | (refine g_pure ?_; first | refine s_eqP ?_ | refine s_eqF ?_ | refine s_eqM ?_ | refine s_eqD ?_ | refine s_nilck ?_ | refine s_fptr0 ?_ | refine s_pure ?_ | refine s_saddB ?_) | (refine g_lfield ?_; refine s_lfield ?_) | (refine g_lload ?_; first | refine s_lloadL ?_ | refine s_lloadF ?_ | refine s_lloadM ?_ | refine s_lloadPI ?_ | refine s_lloadPX ?_ | refine s_lloadPY ?_ | refine s_lloadPP ?_ | refine s_lload ?_) | (refine g_lstore ?_; first | refine s_lstoreL ?_ | refine s_lstoreF ?_ | refine s_lstoreM ?_ | refine s_lstoreP ?_ | refine s_lstoreA ?_ | refine s_lstore ?_) | (refine g_lalloc ?_; refine s_lalloc ?_) | (refine g_lbox ?_; first | refine s_lboxF ?_ | refine s_lboxP ?_ | refine s_lbox ?_) | refine o_callp (by with_unfolding_all rfl) (by first | exact squareK _ | exact timesSq1 _) ?_ | (refine o_callg (by with_unfolding_all rfl) (by first | exact squareK _ | exact timesSq1 _) ?_; intro G' hle)) | (with_reducible refine i_vc ?_; first | refine v_seq ?_ | refine v_ops ?_ | (refine g_cond ?_; first | refine s_cond_t ?_ | refine s_cond_f ?_) | refine v_skip ?_ | refine v_ret ?_ | refine s_drawl ?_ | refine v_draw0 ?_) | (with_reducible refine i_plan ?_; first | refine p_done ?_ | refine s_pre ?_ | refine s_preN ?_ | refine s_ag_t ?_ | refine s_ag_f ?_ | refine p_callp (by with_unfolding_all rfl) (by first | exact squareK _ | exact timesSq1 _) (by first | assumption | exact GH.le_refl _ | ((repeat (first | exact GH.le_refl _ | assumption | refine GH.le_trans ?_ (by assumption))); first | done | fail)) ?_ p_no | (refine p_callg (by with_unfolding_all rfl) (by first | exact squareK _ | exact timesSq1 _) (by first | assumption | exact GH.le_refl _ | ((repeat (first | exact GH.le_refl _ | assumption | refine GH.le_trans ?_ (by assumption))); first | done | fail)) ?_ p_no; intro G' hle) | refine s_alt ?_ | refine p_alt ?_ ?_) | (with_reducible first | refine n_then ?_ | refine r_then ?_ | refine e_then ?_ | (refine g_stand ?_; first | refine s_stand ?_ | refine s_standL ?_)) | ((with_reducible first | refine s_g_c ?_ ?_ | refine s_cond_c ?_ ?_ | refine s_tg_c ?_ ?_ | refine s_ag_c ?_ ?_) <;> intro hb <;> rw [hb] <;> (try simp only [decide_eq_true_eq, decide_eq_false_iff_not, beq_iff_eq, bne_iff_ne, beq_eq_false_iff_ne, bne_eq_false_iff_eq, ne_eq, Int.not_lt, Int.not_le, gt_iff_lt, ge_iff_le, Bool.not_eq_true', Bool.not_eq_false'] at hb)) | ((with_reducible first | refine s_ret ?_ | refine s_normal ?_); try simp only [x_tup0, x_tup1, x_tup2, x_tup3, x_tup4, x_tup5, and_true, true_and])))
  rw [l_ext]
  exact ⟨rfl, by assumption⟩
theorem atF (x y : List UInt8) (i : Bool) (G : GH) (hx : x.length = 32) (hy : y.length = 32) : HC Try.prog 34 #[pnt x y i] G fun v G' => v = atV x y i ∧ G.le G' := by
  refine HC.start comp34 rfl ?_; unfold pc34
  (repeat' (first | (with_reducible refine i_ops ?_; first | (refine g_mv ?_; refine s_mv ?_) | refine o_nil ?_ | (refine g_some ?_; first | refine s_g_t ?_ | refine s_g_f ?_ | refine s_g_f' ?_ | refine s_g_u ?_) | (refine g_pick ?_; first | refine s_pick_t ?_ | refine s_pick_f ?_) | (refine g_build ?_; first | refine s_bl3 ?_ | refine s_bl1 ?_ | refine s_bl0 ?_ | refine s_bp3 ?_ | refine s_bp2 ?_ | refine s_bp1 ?_ | refine s_bp0 ?_ | refine s_build ?_ | refine s_buildP ?_) | (refine g_pure ?_; first | refine s_eqP ?_ | refine s_eqF ?_ | refine s_eqM ?_ | refine s_eqD ?_ | refine s_nilck ?_ | refine s_fptr0 ?_ | refine s_pure ?_ | refine s_saddB ?_) | (refine g_lfield ?_; refine s_lfield ?_) | (refine g_lload ?_; first | refine s_lloadL ?_ | refine s_lloadF ?_ | refine s_lloadM ?_ | refine s_lloadPI ?_ | refine s_lloadPX ?_ | refine s_lloadPY ?_ | refine s_lloadPP ?_ | refine s_lload ?_) | (refine g_lstore ?_; first | refine s_lstoreL ?_ | refine s_lstoreF ?_ | refine s_lstoreM ?_ | refine s_lstoreP ?_ | refine s_lstoreA ?_ | refine s_lstore ?_) | (refine g_lalloc ?_; refine s_lalloc ?_) | (refine g_lbox ?_; first | refine s_lboxF ?_ | refine s_lboxP ?_ | refine s_lbox ?_) | refine o_callp (by with_unfolding_all rfl) (by first | exact farF _ | exact readF _ _ hx | exact readF _ _ hy | exact timesF _ _ _ | exact threeF _ _ | exact minusF _ _ _ | exact plusF _ _ _ | exact coefficientF _ | exact squareK _ | exact timesSq1 _) ?_ | (refine o_callg (by with_unfolding_all rfl) (by first | exact farF _ | exact readF _ _ hx | exact readF _ _ hy | exact timesF _ _ _ | exact threeF _ _ | exact minusF _ _ _ | exact plusF _ _ _ | exact coefficientF _ | exact squareK _ | exact timesSq1 _) ?_; intro G' hle)) | (with_reducible refine i_vc ?_; first | refine v_seq ?_ | refine v_ops ?_ | (refine g_cond ?_; first | refine s_cond_t ?_ | refine s_cond_f ?_) | refine v_skip ?_ | refine v_ret ?_ | refine s_drawl ?_ | refine v_draw0 ?_) | (with_reducible refine i_plan ?_; first | refine p_done ?_ | refine s_pre ?_ | refine s_preN ?_ | refine s_ag_t ?_ | refine s_ag_f ?_ | refine p_callp (by with_unfolding_all rfl) (by first | exact farF _ | exact readF _ _ hx | exact readF _ _ hy | exact timesF _ _ _ | exact threeF _ _ | exact minusF _ _ _ | exact plusF _ _ _ | exact coefficientF _ | exact squareK _ | exact timesSq1 _) (by first | assumption | exact GH.le_refl _ | ((repeat (first | exact GH.le_refl _ | assumption | refine GH.le_trans ?_ (by assumption))); first | done | fail)) ?_ p_no | (refine p_callg (by with_unfolding_all rfl) (by first | exact farF _ | exact readF _ _ hx | exact readF _ _ hy | exact timesF _ _ _ | exact threeF _ _ | exact minusF _ _ _ | exact plusF _ _ _ | exact coefficientF _ | exact squareK _ | exact timesSq1 _) (by first | assumption | exact GH.le_refl _ | ((repeat (first | exact GH.le_refl _ | assumption | refine GH.le_trans ?_ (by assumption))); first | done | fail)) ?_ p_no; intro G' hle) | refine s_alt ?_ | refine p_alt ?_ ?_) | (with_reducible first | refine n_then ?_ | refine r_then ?_ | refine e_then ?_ | (refine g_stand ?_; first | refine s_stand ?_ | refine s_standL ?_)) | ((with_reducible first | refine s_g_c ?_ ?_ | refine s_cond_c ?_ ?_ | refine s_tg_c ?_ ?_ | refine s_ag_c ?_ ?_) <;> intro hb <;> rw [hb] <;> (try simp only [decide_eq_true_eq, decide_eq_false_iff_not, beq_iff_eq, bne_iff_ne, beq_eq_false_iff_ne, bne_eq_false_iff_eq, ne_eq, Int.not_lt, Int.not_le, gt_iff_lt, ge_iff_le, Bool.not_eq_true', Bool.not_eq_false'] at hb)) | ((with_reducible first | refine s_ret ?_ | refine s_normal ?_); try simp only [x_tup0, x_tup1, x_tup2, x_tup3, x_tup4, x_tup5, and_true, true_and])))
  all_goals rw [l_ext]
  all_goals refine ⟨?_, (by first | assumption | exact GH.le_refl _ | ((repeat (first | exact GH.le_refl _ | assumption | refine GH.le_trans ?_ (by assumption))); first | done | fail))⟩
  · rw [atV, if_pos rfl]
  · rw [atV, if_neg (by decide), if_neg (by omega)]
  · rw [atV, if_neg (by decide), if_neg (by omega)]
  all_goals rw [atV, if_neg (by decide), if_pos ⟨by assumption, by assumption⟩]; rfl
end Go.Proofs.Ytdeihgcgglhhcaa.V
