/- The sum of two places. -/
import Derived.Test.YtdeihgcgglhhcaaPaZKZLB
import Derived.Test.YtdeihgcgglhhcaaPaZKSVO
section
set_option linter.unusedSimpArgs false
set_option linter.unusedVariables false
set_option maxRecDepth 20000
-- @pre g_lload s_lloadL s_lloadLX s_lloadLY s_lloadLZ s_lloadF
-- @pre g_lstore s_lstoreL s_lstoreF
-- @pre g_lbox s_lboxL s_lboxF
-- @pre g_build s_bl3
-- @step (refine g_callv ?_; first | (refine s_cvT ?_; intro G' hle) | refine s_cvP ?_ | refine s_cvM ?_)
namespace Go.Proofs.Ytdeihgcgglhhcaa.V
open Go.RowKit Go.ChangeShapes Go.WideShapes
set_option maxHeartbeats 2000000 in
theorem placePlusF (X1 Y1 Z1 X2 Y2 Z2 : Fp) (G : GH) : HC Try.prog 35 #[plc X1 Y1 Z1, plc X2 Y2 Z2] G fun v G' => v = plc (plX X1 Y1 Z1 X2 Y2 Z2) (plY X1 Y1 Z1 X2 Y2 Z2) (plZ X1 Y1 Z1 X2 Y2 Z2) ∧ G.le G' := by
  refine HC.start comp35 rfl ?_; unfold pc35
  refine v_seq ?_
  generalize hQ : thenQ _ _ = Q'
  (repeat' (first | (with_reducible refine i_ops ?_; first | refine o_nil ?_ | (refine g_lalloc ?_; refine s_lalloc ?_) | (refine g_lbox ?_; refine s_lboxL ?_)) | (with_reducible refine i_vc ?_; refine v_ops ?_)))
  subst hQ
  refine n_then ?_
  refine v_seq ?_
  generalize hQ : thenQ _ _ = Q'
  (repeat' (first | (with_reducible refine i_ops ?_; first | (refine g_mv ?_; refine s_mv ?_) | refine o_nil ?_ | (refine g_lstore ?_; refine s_lstoreF ?_) | (refine g_lalloc ?_; refine s_lalloc ?_) | (refine o_callg qrf (by exact coefficientF _) ?_; intro G' hle)) | (with_reducible refine i_vc ?_; refine v_ops ?_)))
  subst hQ
  refine n_then ?_
  refine v_seq ?_
  refine v_trim [(2, .int .u64 0), (3, .int .u64 0), (4, .int .u64 0), (5, Value.func (.func 51) #[] #[]), (6, Value.func (.func 55) #[] #[]), (7, Value.func (.func 48) #[] #[]), (8, .int .u64 0)] [(2, lcells X1 Y1 Z1), (3, lcells X2 Y2 Z2), (4, zl.toArray), (8, (fv (of co256)).cells)] qhs qhl ?_
  intro s l
  refine plR0 X1 Y1 Z1 X2 Y2 Z2 (of co256) ?_ s l
  intro G1 h1 s l
  refine n_then ?_
  refine v_seq ?_
  refine plR1 ?_ s l
  intro G2 h2 s l
  refine n_then ?_
  refine v_seq ?_
  refine plR2 ?_ s l
  intro G3 h3 s l
  refine n_then ?_
  refine v_seq ?_
  refine plR3 ?_ s l
  intro G4 h4 s l
  refine n_then ?_
  refine v_seq ?_
  refine plR4 ?_ s l
  intro G5 h5 s l
  refine n_then ?_
  refine v_seq ?_
  refine plR5 ?_ s l
  intro G6 h6 s l
  refine n_then ?_
  refine v_seq ?_
  generalize hQ : thenQ _ _ = Q'
  dsimp only [SL.sets, AL.sets]
  (repeat' (first | (with_reducible refine i_ops ?_; first | (refine g_callv ?_; refine s_cvM ?_) | (refine g_mv ?_; refine s_mv ?_) | refine o_nil ?_ | (refine g_lload ?_; refine s_lloadF ?_) | (refine g_lstore ?_; refine s_lstoreF ?_) | (refine g_lalloc ?_; refine s_lalloc ?_) | refine o_callp qrf (by exact threeF _ _) ?_) | (with_reducible refine i_vc ?_; refine v_ops ?_)))
  subst hQ
  refine n_then ?_
  refine v_seq ?_
  refine v_trim [(4, .int .u64 0), (5, Value.func (.func 51) #[] #[]), (6, Value.func (.func 55) #[] #[]), (7, Value.func (.func 48) #[] #[]), (8, .int .u64 0), (9, .int .u64 0), (10, .int .u64 0), (11, .int .u64 0), (12, .int .u64 0), (13, .int .u64 0), (14, .int .u64 0), (15, .int .u64 0), (16, .int .u64 0), (17, .int .u64 0)] [(4, zl.toArray), (8, (fv (of co256)).cells), (9, (fv (X1 * X2)).cells), (10, (fv (Y1 * Y2)).cells), (11, (fv (Z1 * Z2)).cells), (12, (fv ((X1 * Y2) + (X2 * Y1))).cells), (13, (fv ((Y1 * Z2) + (Y2 * Z1))).cells), (14, (fv ((X1 * Z2) + (X2 * Z1))).cells), (15, (fv ((((X1 * Z2) + (X2 * Z1)) - ((of co256) * (Z1 * Z2))) + (((X1 * Z2) + (X2 * Z1)) - ((of co256) * (Z1 * Z2))) + (((X1 * Z2) + (X2 * Z1)) - ((of co256) * (Z1 * Z2))))).cells), (16, (fv (((((of co256) * ((X1 * Z2) + (X2 * Z1))) - ((Z1 * Z2) + (Z1 * Z2) + (Z1 * Z2))) - (X1 * X2)) + ((((of co256) * ((X1 * Z2) + (X2 * Z1))) - ((Z1 * Z2) + (Z1 * Z2) + (Z1 * Z2))) - (X1 * X2)) + ((((of co256) * ((X1 * Z2) + (X2 * Z1))) - ((Z1 * Z2) + (Z1 * Z2) + (Z1 * Z2))) - (X1 * X2)))).cells), (17, (fv (((X1 * X2) - (Z1 * Z2)) + ((X1 * X2) - (Z1 * Z2)) + ((X1 * X2) - (Z1 * Z2)))).cells)] qhs qhl ?_
  clear s l
  intro s l
  refine plR6 ?_ s l
  intro G7 h7 s l
  refine n_then ?_
  dsimp only [SL.sets, AL.sets]
  (repeat' (first | (with_reducible refine i_ops ?_; first | (refine g_callv ?_; first | (refine s_cvT ?_; intro G' hle) | refine s_cvP ?_ | refine s_cvM ?_) | (refine g_mv ?_; refine s_mv ?_) | refine o_nil ?_ | (refine g_build ?_; refine s_bl3 ?_) | (refine g_lload ?_; refine s_lloadF ?_) | (refine g_lstore ?_; refine s_lstoreL ?_)) | (with_reducible refine i_vc ?_; first | refine v_seq ?_ | refine v_ret ?_ | refine v_draw0 ?_) | (with_reducible refine i_plan ?_; first | refine p_done ?_ | refine s_pre ?_ | refine s_preN ?_ | refine s_alt ?_) | (with_reducible first | refine n_then ?_ | (refine g_stand ?_; first | refine s_stand ?_ | refine s_standL ?_)) | ((with_reducible refine s_ret ?_); try simp only [x_tup0, x_tup1, x_tup2, x_tup3, x_tup4, x_tup5, and_true, true_and])))
  rw [l_ext]
  exact ⟨rfl, qle⟩
end Go.Proofs.Ytdeihgcgglhhcaa.V
end
section
/- Plain: sums of places, scaled. -/
set_option linter.unusedVariables false
namespace Go.Proofs.Ytdeihgcgglhhcaa.V
/-- The complete sum, for any coefficient. -/
def cX (b X1 Y1 Z1 X2 Y2 Z2 : Fp) : Fp := (X1 * Y2 + X2 * Y1) * (Y1 * Y2 + (X1 * Z2 + X2 * Z1 - b * (Z1 * Z2) + (X1 * Z2 + X2 * Z1 - b * (Z1 * Z2)) + (X1 * Z2 + X2 * Z1 - b * (Z1 * Z2)))) - (Y1 * Z2 + Y2 * Z1) * (b * (X1 * Z2 + X2 * Z1) - (Z1 * Z2 + Z1 * Z2 + Z1 * Z2) - X1 * X2 + (b * (X1 * Z2 + X2 * Z1) - (Z1 * Z2 + Z1 * Z2 + Z1 * Z2) - X1 * X2) + (b * (X1 * Z2 + X2 * Z1) - (Z1 * Z2 + Z1 * Z2 + Z1 * Z2) - X1 * X2))
def cZ (b X1 Y1 Z1 X2 Y2 Z2 : Fp) : Fp := (Y1 * Z2 + Y2 * Z1) * (Y1 * Y2 - (X1 * Z2 + X2 * Z1 - b * (Z1 * Z2) + (X1 * Z2 + X2 * Z1 - b * (Z1 * Z2)) + (X1 * Z2 + X2 * Z1 - b * (Z1 * Z2)))) + (X1 * Y2 + X2 * Y1) * (X1 * X2 - Z1 * Z2 + (X1 * X2 - Z1 * Z2) + (X1 * X2 - Z1 * Z2))
theorem plX_c (X1 Y1 Z1 X2 Y2 Z2 : Fp) : plX X1 Y1 Z1 X2 Y2 Z2 = cX (of co256) X1 Y1 Z1 X2 Y2 Z2 := rfl
theorem plZ_c (X1 Y1 Z1 X2 Y2 Z2 : Fp) : plZ X1 Y1 Z1 X2 Y2 Z2 = cZ (of co256) X1 Y1 Z1 X2 Y2 Z2 := rfl
theorem cX_s (b x1 y1 z1 x2 y2 z2 : Fp) : cX b (x1 * z1) (y1 * z1) z1 (x2 * z2) (y2 * z2) z2 = z1 * z2 * (z1 * z2) * cX b x1 y1 1 x2 y2 1 := by
  unfold cX
  grind
theorem cZ_s (b x1 y1 z1 x2 y2 z2 : Fp) : cZ b (x1 * z1) (y1 * z1) z1 (x2 * z2) (y2 * z2) z2 = z1 * z2 * (z1 * z2) * cZ b x1 y1 1 x2 y2 1 := by
  unfold cZ
  grind
def cY (b X1 Y1 Z1 X2 Y2 Z2 : Fp) : Fp := (Y1 * Y2 + (X1 * Z2 + X2 * Z1 - b * (Z1 * Z2) + (X1 * Z2 + X2 * Z1 - b * (Z1 * Z2)) + (X1 * Z2 + X2 * Z1 - b * (Z1 * Z2)))) * (Y1 * Y2 - (X1 * Z2 + X2 * Z1 - b * (Z1 * Z2) + (X1 * Z2 + X2 * Z1 - b * (Z1 * Z2)) + (X1 * Z2 + X2 * Z1 - b * (Z1 * Z2)))) + (X1 * X2 - Z1 * Z2 + (X1 * X2 - Z1 * Z2) + (X1 * X2 - Z1 * Z2)) * (b * (X1 * Z2 + X2 * Z1) - (Z1 * Z2 + Z1 * Z2 + Z1 * Z2) - X1 * X2 + (b * (X1 * Z2 + X2 * Z1) - (Z1 * Z2 + Z1 * Z2 + Z1 * Z2) - X1 * X2) + (b * (X1 * Z2 + X2 * Z1) - (Z1 * Z2 + Z1 * Z2 + Z1 * Z2) - X1 * X2))
theorem plY_c (X1 Y1 Z1 X2 Y2 Z2 : Fp) : plY X1 Y1 Z1 X2 Y2 Z2 = cY (of co256) X1 Y1 Z1 X2 Y2 Z2 := rfl
theorem cY_s (b x1 y1 z1 x2 y2 z2 : Fp) : cY b (x1 * z1) (y1 * z1) z1 (x2 * z2) (y2 * z2) z2 = z1 * z2 * (z1 * z2) * cY b x1 y1 1 x2 y2 1 := by
  unfold cY
  grind
/-- On the curve. -/
def Cv (b x y : Fp) : Prop := y * y = x * x * x - (x + x + x) + b
/-- The chord's point: x by dx dx, y by dx dx dx. -/
def chN (x1 y1 x2 y2 : Fp) : Fp := (y2 - y1) * (y2 - y1) - (x1 + x2) * ((x2 - x1) * (x2 - x1))
def chY (x1 y1 x2 y2 : Fp) : Fp := (y2 - y1) * (x1 * ((x2 - x1) * (x2 - x1)) - chN x1 y1 x2 y2) - y1 * ((x2 - x1) * (x2 - x1) * (x2 - x1))
/-- The tangent's point: x by 4 y y, y by 8 y y y. -/
def tgN (x y : Fp) : Fp := (3 * (x * x) - 3) * (3 * (x * x) - 3) - 8 * (x * (y * y))
def tgY (x y : Fp) : Fp := (3 * (x * x) - 3) * (4 * (x * (y * y)) - tgN x y) - 8 * (y * y * (y * y))
theorem cZ_dbl (b x y : Fp) (h : Cv b x y) : cZ b x y 1 x y 1 = 8 * (y * y * y) := by
  unfold cZ Cv at *
  grind
theorem cX_dbl (b x y : Fp) (h : Cv b x y) : cX b x y 1 x y 1 = 2 * y * tgN x y := by
  unfold cX tgN Cv at *
  grind
theorem cY_dbl (b x y : Fp) (h : Cv b x y) : cY b x y 1 x y 1 = tgY x y := by
  unfold cY tgY tgN Cv at *
  grind
theorem cZ_opp (b x y : Fp) : cZ b x y 1 x (0 - y) 1 = 0 := by
  unfold cZ
  grind
theorem cX_opp (b x y : Fp) : cX b x y 1 x (0 - y) 1 = 0 := by
  unfold cX
  grind
theorem cY_opp (b x y : Fp) (h : Cv b x y) : cY b x y 1 x (0 - y) 1 = tgY x y := by
  unfold cY tgY tgN Cv at *
  grind
theorem cZ_far (b x y z Y : Fp) : cZ b 0 Y 0 x y z = z * (Y * (Y * y)) := by
  unfold cZ
  grind
theorem cX_far (b x y z Y : Fp) : cX b 0 Y 0 x y z = x * (Y * (Y * y)) := by
  unfold cX
  grind
theorem cY_far (b x y z Y : Fp) : cY b 0 Y 0 x y z = y * (Y * (Y * y)) := by
  unfold cY
  grind
theorem cZ_neg (b x1 y1 x2 y2 : Fp) (h1 : Cv b x1 y1) (h2 : Cv b x2 y2) : cZ b x1 y1 1 x2 y2 1 = chY x1 y1 x2 (0 - y2) ∨ cZ b x1 y1 1 x2 y2 1 = 0 - chY x1 y1 x2 (0 - y2) := by
  first
  | (left; unfold cZ chY chN Cv at *; grind)
  | (right; unfold cZ chY chN Cv at *; grind)
theorem ch_on (b x1 y1 x2 y2 : Fp) (h1 : Cv b x1 y1) (h2 : Cv b x2 y2) : chY x1 y1 x2 y2 * chY x1 y1 x2 y2 = chN x1 y1 x2 y2 * chN x1 y1 x2 y2 * chN x1 y1 x2 y2 - 3 * chN x1 y1 x2 y2 * ((x2 - x1) * (x2 - x1) * ((x2 - x1) * (x2 - x1))) + b * ((x2 - x1) * (x2 - x1) * ((x2 - x1) * (x2 - x1)) * ((x2 - x1) * (x2 - x1))) := by
  unfold chY chN Cv at *
  grind
theorem tg_on (b x y : Fp) (h : Cv b x y) : tgY x y * tgY x y = tgN x y * tgN x y * tgN x y - 48 * tgN x y * (y * y * (y * y)) + 64 * b * (y * y * (y * y) * (y * y)) := by
  unfold tgY tgN Cv at *
  grind
theorem cX_ch (b x1 y1 x2 y2 : Fp) (h1 : Cv b x1 y1) (h2 : Cv b x2 y2) : cX b x1 y1 1 x2 y2 1 * ((x2 - x1) * (x2 - x1)) = chN x1 y1 x2 y2 * cZ b x1 y1 1 x2 y2 1 := by
  unfold cX cZ chN Cv at *
  grind
theorem cY_ch (b x1 y1 x2 y2 : Fp) (h1 : Cv b x1 y1) (h2 : Cv b x2 y2) : cY b x1 y1 1 x2 y2 1 * ((x2 - x1) * (x2 - x1) * (x2 - x1)) = chY x1 y1 x2 y2 * cZ b x1 y1 1 x2 y2 1 := by
  unfold cY cZ chY chN Cv at *
  grind
end Go.Proofs.Ytdeihgcgglhhcaa.V
end
section
/- The document's places: three numbers of eight words. -/
set_option linter.unusedSimpArgs false
set_option linter.unusedVariables false
set_option maxRecDepth 20000
-- @retp
-- @extra s_eqP s_eqF s_eqM s_eqD s_naddc s_nadd s_naddL s_nilck s_fptr0
-- @pre g_lload s_lloadJ s_lloadJX s_lloadJY s_lloadJZ s_lloadM s_lloadPI s_lloadPX s_lloadPY s_lloadPP
-- @pre g_lstore s_lstoreJ s_lstoreM s_lstoreP
-- @pre g_lbox s_lboxJ s_lboxM s_lboxP
-- @pre g_build s_bm0 s_bj3 s_bp3 s_bp2 s_bp1 s_bp0
namespace Go.Proofs.Ytdeihgcgglhhcaa.V
open Go.RowKit Go.ChangeShapes Go.WideShapes
theorem len8 (X : Fp) : ((fd 4294967296 8 (mo X)).map (iv .u64)).length = 8 := by simp [fd_len]
def jcells (X Y Z : Fp) : Array Value := ((fd 4294967296 8 (mo X)).map (iv .u64) ++ ((fd 4294967296 8 (mo Y)).map (iv .u64) ++ (fd 4294967296 8 (mo Z)).map (iv .u64))).toArray
def jpl (X Y Z : Fp) : Value := .agg (jcells X Y Z)
theorem jc_size (X Y Z : Fp) : (jcells X Y Z).size = 24 := by simp [jcells, fd_len]
def zj : List Value := List.replicate 24 (iv .u64 0)
theorem build_j3 {a b c : List Value} {u v w : Value} (hu : u.cells = a.toArray) (hv : v.cells = b.toArray) (hw : w.cells = c.toArray) (ha : a.length = 8) (hb : b.length = 8) (hc : c.length = 8) : pureV (.build zj.toArray [(0, 8), (8, 8), (16, 8)]) [u, v, w] = some (.agg (a ++ (b ++ c)).toArray) := by
  rw [pure_build', fill_step hu ha (by simp [zj]), fill_step hv hb (by simp [zj, ha]), fill_step hw hc (by simp [zj, ha, hb])]
  have e1 : List.take 16 a = a := List.take_of_length_le (by omega)
  have e2 : List.drop 24 a = [] := List.drop_of_length_le (by omega)
  have e3 : List.drop 16 b = [] := List.drop_of_length_le (by omega)
  show some (Value.agg _) = _
  simp [zj, List.take_append, List.drop_append, ha, hb, hc, e1, e2, e3]
theorem buildJ3 (X Y Z : Fp) : pureV (.build zj.toArray [(0, 8), (8, 8), (16, 8)]) [fm X, fm Y, fm Z] = some (jpl X Y Z) := build_j3 rfl rfl rfl (len8 X) (len8 Y) (len8 Z)
theorem take_j {a b c : List Value} (ha : a.length = 8) (hb : b.length = 8) (hc : c.length = 8) : takeV true (a ++ (b ++ c)).toArray 0 8 = some (.agg a.toArray) ∧ takeV true (a ++ (b ++ c)).toArray 8 8 = some (.agg b.toArray) ∧ takeV true (a ++ (b ++ c)).toArray 16 8 = some (.agg c.toArray) := by
  have hs : (a ++ (b ++ c)).toArray.size = 24 := by simp [ha, hb, hc]
  have e1 : List.take 8 a = a := List.take_of_length_le (by omega)
  have e2 : List.take 8 b = b := List.take_of_length_le (by omega)
  have e3 : List.take 8 c = c := List.take_of_length_le (by omega)
  have e4 : List.drop 16 a = [] := List.drop_of_length_le (by omega)
  have e5 : List.drop 8 a = [] := List.drop_of_length_le (by omega)
  refine ⟨?_, ?_, ?_⟩
  · show (if 0 + 8 ≤ (a ++ (b ++ c)).toArray.size then some (Value.agg ((a ++ (b ++ c)).toArray.extract 0 (0 + 8))) else none) = _
    rw [if_pos (by omega)]
    simp [List.extract_eq_take_drop, List.take_append, ha, e1]
  · show (if 8 + 8 ≤ (a ++ (b ++ c)).toArray.size then some (Value.agg ((a ++ (b ++ c)).toArray.extract 8 (8 + 8))) else none) = _
    rw [if_pos (by omega)]
    simp [List.extract_eq_take_drop, List.take_append, List.drop_append, ha, hb, e2, e5]
  · show (if 16 + 8 ≤ (a ++ (b ++ c)).toArray.size then some (Value.agg ((a ++ (b ++ c)).toArray.extract 16 (16 + 8))) else none) = _
    rw [if_pos (by omega)]
    simp [List.extract_eq_take_drop, List.take_append, List.drop_append, ha, hb, e3, e4]
section
variable {P : Program} {E : Env} {K : St → Prop} {r : List Stp} {dd : Option Nat} {L : SL} {A : AL} {G : GH} {X Y Z : Fp}
theorem s_bj3 {d : Nat} {z : Array Value} {xs : List Operand} {u v w : Value} (h : vops P E r K (S (.set d (jpl X Y Z) L) A G)) (hx : evs L xs = some [u, v, w] ∧ u = fm X ∧ v = fm Y ∧ w = fm Z := by (refine ⟨by with_unfolding_all rfl, ?_, ?_, ?_⟩ <;> with_reducible rfl)) (hz : z = zj.toArray := by with_unfolding_all rfl) : vops P E (⟨none, dd, .pure d (.build z [(0, 8), (8, 8), (16, 8)]) xs⟩ :: r) K (S L A G) := by
  subst hz
  obtain ⟨hx, rfl, rfl, rfl⟩ := hx
  exact o_pure hx (buildJ3 X Y Z) h
theorem s_bm0 {d : Nat} {z : Array Value} (h : vops P E r K (S (.set d (fm 0) L) A G)) (hz : z = #[.int .u64 0, .int .u64 0, .int .u64 0, .int .u64 0, .int .u64 0, .int .u64 0, .int .u64 0, .int .u64 0] := by with_unfolding_all rfl) : vops P E (⟨none, dd, .pure d (.build z []) []⟩ :: r) K (S L A G) := by
  subst hz
  exact o_pure (vs := []) rfl rfl h
theorem s_lstoreJ {k s0 : Nat} {o : Operand} {v : Value} {cs : Array Value} (h : vops P E r K (S L (.set k (jcells X Y Z) A) G)) (hp : L.get s0 = some (.int .u64 0) := by with_unfolding_all rfl) (hx : evo L o = some v ∧ v = jpl X Y Z := by (refine ⟨by with_unfolding_all rfl, ?_⟩; with_reducible rfl)) (hc : A.get k = some cs ∧ cs.size = 24 := by (refine ⟨by with_unfolding_all rfl, ?_⟩; first | exact jc_size _ _ _ | with_unfolding_all rfl)) : vops P E (⟨none, dd, .lstore k s0 24 o⟩ :: r) K (S L A G) := by
  refine o_lstoreA (y := jpl X Y Z) hp hc.1 (by rw [hx.1, hx.2]) rfl (by simp [fd_len]) hc.2.symm ?_ h
  simp [cells1, Value.oneCell']
theorem s_lloadJ {d k s0 : Nat} {cs : Array Value} (h : vops P E r K (S (.set d (jpl X Y Z) L) A G)) (hp : L.get s0 = some (.int .u64 0) := by with_unfolding_all rfl) (hc : A.get k = some cs ∧ cs = jcells X Y Z := by (refine ⟨by with_unfolding_all rfl, ?_⟩; with_reducible rfl)) : vops P E (⟨none, dd, .lload d k s0 24 true⟩ :: r) K (S L A G) :=
  o_lload hp hc.1 (by rw [hc.2]; exact x_takeA (cs := jcells X Y Z) (jc_size X Y Z)) h
theorem s_lloadJX {d k s0 : Nat} {cs : Array Value} (h : vops P E r K (S (.set d (fm X) L) A G)) (hp : L.get s0 = some (.int .u64 0) := by with_unfolding_all rfl) (hc : A.get k = some cs ∧ cs = jcells X Y Z := by (refine ⟨by with_unfolding_all rfl, ?_⟩; with_reducible rfl)) : vops P E (⟨none, dd, .lload d k s0 8 true⟩ :: r) K (S L A G) :=
  o_lload hp hc.1 (by rw [hc.2]; exact (take_j (len8 X) (len8 Y) (len8 Z)).1) h
theorem s_lloadJY {d k s0 : Nat} {cs : Array Value} (h : vops P E r K (S (.set d (fm Y) L) A G)) (hp : L.get s0 = some (.int .u64 8) := by with_unfolding_all rfl) (hc : A.get k = some cs ∧ cs = jcells X Y Z := by (refine ⟨by with_unfolding_all rfl, ?_⟩; with_reducible rfl)) : vops P E (⟨none, dd, .lload d k s0 8 true⟩ :: r) K (S L A G) :=
  o_lload hp hc.1 (by rw [hc.2]; exact (take_j (len8 X) (len8 Y) (len8 Z)).2.1) h
theorem s_lloadJZ {d k s0 : Nat} {cs : Array Value} (h : vops P E r K (S (.set d (fm Z) L) A G)) (hp : L.get s0 = some (.int .u64 16) := by with_unfolding_all rfl) (hc : A.get k = some cs ∧ cs = jcells X Y Z := by (refine ⟨by with_unfolding_all rfl, ?_⟩; with_reducible rfl)) : vops P E (⟨none, dd, .lload d k s0 8 true⟩ :: r) K (S L A G) :=
  o_lload hp hc.1 (by rw [hc.2]; exact (take_j (len8 X) (len8 Y) (len8 Z)).2.2) h
theorem s_lboxJ {d k : Nat} {o : Operand} {v : Value} {ts : List Nat} (h : vops P E r K (S (.set d (.int .u64 0) (.kill ts L)) (.set k (jcells X Y Z) A) G)) (hx : evo L o = some v ∧ v = jpl X Y Z := by (refine ⟨by with_unfolding_all rfl, ?_⟩; with_reducible rfl)) (ho : onceE E.env = true := by with_unfolding_all rfl) (hk : slotsOf E.env k = some ts := by with_unfolding_all rfl) : vops P E (⟨none, dd, .lbox d k o⟩ :: r) K (S L A G) := o_lbox ho hk hx.1 (by rw [hx.2]; rfl) h
end
theorem j_ext (X Y Z : Fp) : Value.agg ((jcells X Y Z).extract 0 24) = jpl X Y Z := by
  have h := jc_size X Y Z
  have := Array.extract_size (xs := jcells X Y Z)
  rw [h] at this
  rw [this]; rfl
/-- A whole field's object. -/
abbrev FW (G : GH) (b : Nat) : Prop := FQ G b (115792089237316195423570985008687907853269984665640564039457584007913129639936 % p256) sq256
theorem atR (b : Nat) (x y : List UInt8) (i : Bool) (G : GH) (hf : FW G b) (hx : x.length = 32) (hy : y.length = 32) : HC Try.prog 46 #[pf b, pnt x y i] G fun v G' => v = (if i then jpl 1 1 0 else jpl (of (be x)) (of (be y)) 1) ∧ G' = G := by
  have F := hf.fo
  have P1 : PtR G (.pointer (some ⟨b, 8, none⟩)) 8 true (fm 1) := hf.one
  have P2 := hf.sq
  have hbx : be x < 115792089237316195423570985008687907853269984665640564039457584007913129639936 := by have := be_lt x; rw [hx] at this; exact this
  have hby : be y < 115792089237316195423570985008687907853269984665640564039457584007913129639936 := by have := be_lt y; rw [hy] at this; exact this
  refine HC.start comp46 rfl ?_; unfold pc46
  (repeat' (first | (with_reducible refine i_ops ?_; first | (refine g_mv ?_; refine s_mv ?_) | refine o_nil ?_ | (refine g_build ?_; first | refine s_bm0 ?_ | refine s_bj3 ?_) | (refine g_pure ?_; first | refine s_nilck ?_ | refine s_fptr0 ?_) | (refine g_lfield ?_; refine s_lfield ?_) | (refine g_lload ?_; first | refine s_lloadPI ?_ | refine s_lloadPX ?_ | refine s_lloadPY ?_) | (refine g_lstore ?_; refine s_lstoreJ ?_) | (refine g_lalloc ?_; refine s_lalloc ?_) | (refine g_lbox ?_; refine s_lboxP ?_) | (refine g_hload ?_; refine s_hloadP ?_)) | (with_reducible refine i_vc ?_; first | refine v_seq ?_ | refine v_ops ?_ | (refine g_cond ?_; first | refine s_cond_t ?_ | refine s_cond_f ?_) | refine v_skip ?_ | refine v_ret ?_ | refine v_draw0 ?_) | (with_reducible refine i_plan ?_; first | refine p_done ?_ | refine s_pre ?_ | refine p_callp qrf (by first | exact fromR _ _ hx | exact fromR _ _ hy | exact mulSqM b (be x) hbx G F | exact mulSqM b (be y) hby G F) qle ?_ p_no | refine s_alt ?_) | (with_reducible first | refine n_then ?_ | refine r_then ?_ | (refine g_stand ?_; refine s_standL ?_)) | ((with_reducible refine s_cond_c ?_ ?_) <;> intro hb <;> rw [hb] <;> (try simp only [decide_eq_true_eq, decide_eq_false_iff_not, beq_iff_eq, bne_iff_ne, beq_eq_false_iff_ne, bne_eq_false_iff_eq, ne_eq, Int.not_lt, Int.not_le, gt_iff_lt, ge_iff_le, Bool.not_eq_true', Bool.not_eq_false'] at hb)) | ((with_reducible refine s_ret ?_); try simp only [x_tup0, x_tup1, x_tup2, x_tup3, x_tup4, x_tup5, and_true, true_and])))
  · rw [j_ext, if_pos trivial]
  · rw [j_ext, if_neg (by decide)]
/-- A place as a point: the document's. -/
def qx (X Z : Fp) : List UInt8 := if Z = 0 then z0 else beN 32 (X * (finv Z * finv Z)).val
def qy (Y Z : Fp) : List UInt8 := if Z = 0 then z0 else beN 32 (Y * (finv Z * finv Z * finv Z)).val
theorem pointR (b : Nat) (X Y Z : Fp) (G : GH) (hf : FW G b) : HC Try.prog 44 #[pf b, jpl X Y Z] G fun v G' => v = pnt (qx X Z) (qy Y Z) (decide (Z = 0)) ∧ G' = G := by
  have F := hf.fo
  have l1 := beN_len 32 (X * (finv Z * finv Z)).val
  have l2 := beN_len 32 (Y * (finv Z * finv Z * finv Z)).val
  refine HC.start comp44 rfl ?_; unfold pc44
  (repeat' (first | (with_reducible refine i_ops ?_; first | (refine g_mv ?_; refine s_mv ?_) | refine o_nil ?_ | (refine g_build ?_; first | refine s_bp2 ?_ | refine s_bp1 ?_ | refine s_buildP ?_) | (refine g_lfield ?_; refine s_lfield ?_) | (refine g_lload ?_; first | refine s_lloadJX ?_ | refine s_lloadJY ?_ | refine s_lloadJZ ?_ | refine s_lloadM ?_) | (refine g_lstore ?_; first | refine s_lstoreM ?_ | refine s_lstoreP ?_ | refine s_lstoreA ?_) | (refine g_lalloc ?_; refine s_lalloc ?_) | (refine g_lbox ?_; refine s_lboxJ ?_) | refine o_callp qrf (by first | exact zeroM _ _ | exact invertM b _ Z G hf | exact mulM b _ _ G F) ?_) | (with_reducible refine i_vc ?_; first | refine v_seq ?_ | refine v_ops ?_ | (refine g_cond ?_; first | refine s_cond_t ?_ | refine s_cond_f ?_) | refine v_skip ?_ | refine v_ret ?_ | refine v_draw0 ?_) | (with_reducible refine i_plan ?_; first | refine p_done ?_ | refine s_pre ?_ | refine p_callp qrf (by first | exact mulM b _ _ G F | exact mulOneM b _ G F | exact toR _ _) qle ?_ p_no | refine s_alt ?_) | (with_reducible first | refine n_then ?_ | refine r_then ?_ | (refine g_stand ?_; refine s_standL ?_)) | ((with_reducible refine s_cond_c ?_ ?_) <;> intro hb <;> rw [hb] <;> (try simp only [decide_eq_true_eq, decide_eq_false_iff_not, beq_iff_eq, bne_iff_ne, beq_eq_false_iff_ne, bne_eq_false_iff_eq, ne_eq, Int.not_lt, Int.not_le, gt_iff_lt, ge_iff_le, Bool.not_eq_true', Bool.not_eq_false'] at hb)) | ((with_reducible refine s_retP1 ?_); try simp only [x_tup0, x_tup1, x_tup2, x_tup3, x_tup4, x_tup5, and_true, true_and])))
  · unfold qx qy
    rw [if_pos hb, if_pos hb]
  · unfold qx qy
    rw [if_neg hb, if_neg hb]
end Go.Proofs.Ytdeihgcgglhhcaa.V
end
section
/- The document's doubling of places. -/
set_option linter.unusedSimpArgs false
set_option linter.unusedVariables false
set_option maxRecDepth 20000
-- @extra s_nilck s_fptr0
-- @pre g_lload s_lloadJ s_lloadJX s_lloadJY s_lloadJZ s_lloadM
-- @pre g_lstore s_lstoreJ s_lstoreM
-- @pre g_lbox s_lboxJ s_lboxM
-- @pre g_build s_bm0 s_bj3
namespace Go.Proofs.Ytdeihgcgglhhcaa.V
open Go.RowKit Go.ChangeShapes Go.WideShapes
def dbL (X Z : Fp) : Fp := (X - Z * Z) * (X + Z * Z) + (X - Z * Z) * (X + Z * Z) + (X - Z * Z) * (X + Z * Z)
def dbF (X Y : Fp) : Fp := X * (Y * Y) + X * (Y * Y) + (X * (Y * Y) + X * (Y * Y))
def dbE (Y : Fp) : Fp := Y * Y * (Y * Y) + Y * Y * (Y * Y) + (Y * Y * (Y * Y) + Y * Y * (Y * Y)) + (Y * Y * (Y * Y) + Y * Y * (Y * Y) + (Y * Y * (Y * Y) + Y * Y * (Y * Y)))
/-- Twice a point by x / z z and y / z z z. -/
def dbX (X Y Z : Fp) : Fp := dbL X Z * dbL X Z - (dbF X Y + dbF X Y)
def dbY (X Y Z : Fp) : Fp := dbL X Z * (dbF X Y - dbX X Y Z) - dbE Y
def dbZ (Y Z : Fp) : Fp := Y * Z + Y * Z
def dX (X Y Z : Fp) : Fp := if Z = 0 then 1 else if Y = 0 then 1 else dbX X Y Z
def dY (X Y Z : Fp) : Fp := if Z = 0 then 1 else if Y = 0 then 1 else dbY X Y Z
def dZ (Y Z : Fp) : Fp := if Z = 0 then 0 else if Y = 0 then 0 else dbZ Y Z
def dbl (X Y Z : Fp) : Value := jpl (dX X Y Z) (dY X Y Z) (dZ Y Z)
theorem dbl_1 {X Y Z : Fp} (h : Z = 0) : dbl X Y Z = jpl 1 1 0 := by simp only [dbl, dX, dY, dZ, if_pos h]
theorem dbl_2 {X Y Z : Fp} (h : ¬Z = 0) (g : Y = 0) : dbl X Y Z = jpl 1 1 0 := by simp only [dbl, dX, dY, dZ, if_neg h, if_pos g]
theorem dbl_3 {X Y Z : Fp} (h : ¬Z = 0) (g : ¬Y = 0) : dbl X Y Z = jpl (dbX X Y Z) (dbY X Y Z) (dbZ Y Z) := by simp only [dbl, dX, dY, dZ, if_neg h, if_neg g]
set_option maxHeartbeats 4000000 in
theorem twiceR (b : Nat) (X Y Z : Fp) (G : GH) (hf : FW G b) : HC Try.prog 47 #[pf b, jpl X Y Z] G fun v G' => v = dbl X Y Z ∧ G' = G := by
  have F := hf.fo
  have P1 : PtR G (.pointer (some ⟨b, 8, none⟩)) 8 true (fm 1) := hf.one
  refine HC.start comp47 rfl ?_; unfold pc47
  refine v_seq ?_
  generalize hQ : thenQ _ _ = Q'
  (repeat' (first | (with_reducible refine i_ops ?_; first | refine o_nil ?_ | (refine g_lalloc ?_; refine s_lalloc ?_) | (refine g_lbox ?_; refine s_lboxJ ?_)) | (with_reducible refine i_vc ?_; refine v_ops ?_)))
  subst hQ
  refine n_then ?_
  refine v_seq ?_
  generalize hQ : thenQ _ _ = Q'
  (repeat' (first | (with_reducible refine i_ops ?_; first | (refine g_mv ?_; refine s_mv ?_) | refine o_nil ?_ | (refine g_some ?_; first | refine s_g_t ?_ | refine s_g_f' ?_) | (refine g_pick ?_; first | refine s_pick_t ?_ | refine s_pick_f ?_) | (refine g_build ?_; first | refine s_bm0 ?_ | refine s_bj3 ?_) | (refine g_pure ?_; first | refine s_nilck ?_ | refine s_fptr0 ?_) | (refine g_lfield ?_; refine s_lfield ?_) | (refine g_lload ?_; first | refine s_lloadJY ?_ | refine s_lloadJZ ?_) | (refine g_lstore ?_; refine s_lstoreJ ?_) | (refine g_hload ?_; refine s_hloadP ?_) | refine o_callp qrf (by exact zeroM _ _) ?_) | (with_reducible refine i_vc ?_; first | refine v_seq ?_ | refine v_ops ?_ | (refine g_cond ?_; first | refine s_cond_t ?_ | refine s_cond_f ?_) | refine v_skip ?_ | refine v_ret ?_ | refine v_draw0 ?_) | (with_reducible refine i_plan ?_; first | refine p_done ?_ | refine s_pre ?_ | refine s_alt ?_) | (with_reducible first | refine n_then ?_ | (refine g_stand ?_; refine s_standL ?_)) | ((with_reducible first | refine s_g_c ?_ ?_ | refine s_cond_c ?_ ?_) <;> intro hb <;> rw [hb] <;> (try simp only [decide_eq_true_eq, decide_eq_false_iff_not, beq_iff_eq, bne_iff_ne, beq_eq_false_iff_ne, bne_eq_false_iff_eq, ne_eq, Int.not_lt, Int.not_le, gt_iff_lt, ge_iff_le, Bool.not_eq_true', Bool.not_eq_false'] at hb))))
  · subst hQ
    refine r_then ?_
    ((with_reducible first | refine s_ret ?_ | refine s_normal ?_); try simp only [x_tup0, x_tup1, x_tup2, x_tup3, x_tup4, x_tup5, and_true, true_and])
    rw [j_ext, dbl_1 hb]
  · subst hQ
    refine r_then ?_
    ((with_reducible first | refine s_ret ?_ | refine s_normal ?_); try simp only [x_tup0, x_tup1, x_tup2, x_tup3, x_tup4, x_tup5, and_true, true_and])
    have hz : ¬Z = 0 := by assumption
    rw [j_ext, dbl_2 hz hb]
  subst hQ
  refine n_then ?_
  have hz : ¬Z = 0 := by assumption
  have hy : ¬Y = 0 := hb
  have hd : dbl X Y Z = jpl (dbX X Y Z) (dbY X Y Z) (dbZ Y Z) := dbl_3 hz hy
  rw [hd]
  refine v_seq ?_
  generalize hQ : thenQ _ _ = Q'
  have tail : ∀ (zz : Fp), zz = Z * Z → ∀ s l, Q' .normal (S (SL.sets s [(0, pf b), (3, .int .u64 0), (4, .int .u64 0), (5, .int .u64 0)]) (AL.sets l [(3, jcells X Y Z), (4, zj.toArray), (5, (fm zz).cells)]) G) := by
    intro zz h_zz s l
    subst hQ
    refine n_then ?_
    dsimp only [SL.sets, AL.sets]
    refine v_seq ?_
    generalize hQ : thenQ _ _ = Q'
    have tail : ∀ (l0 : Fp), l0 = (X - zz) * (X + zz) → ∀ s l, Q' .normal (S (SL.sets s [(0, pf b), (3, .int .u64 0), (4, .int .u64 0), (5, .int .u64 0), (6, .int .u64 0)]) (AL.sets l [(3, jcells X Y Z), (4, zj.toArray), (5, (fm zz).cells), (6, (fm l0).cells)]) G) := by
      intro l0 h_l0 s l
      subst hQ
      refine n_then ?_
      dsimp only [SL.sets, AL.sets]
      refine v_seq ?_
      generalize hQ : thenQ _ _ = Q'
      have tail : ∀ (l1 : Fp), l1 = l0 + l0 + l0 → ∀ s l, Q' .normal (S (SL.sets s [(0, pf b), (3, .int .u64 0), (4, .int .u64 0), (5, .int .u64 0), (6, .int .u64 0)]) (AL.sets l [(3, jcells X Y Z), (4, zj.toArray), (5, (fm zz).cells), (6, (fm l1).cells)]) G) := by
        intro l1 h_l1 s l
        subst hQ
        refine n_then ?_
        dsimp only [SL.sets, AL.sets]
        refine v_seq ?_
        generalize hQ : thenQ _ _ = Q'
        have tail : ∀ (yy : Fp), yy = Y * Y → ∀ s l, Q' .normal (S (SL.sets s [(0, pf b), (3, .int .u64 0), (4, .int .u64 0), (5, .int .u64 0), (6, .int .u64 0), (7, .int .u64 0)]) (AL.sets l [(3, jcells X Y Z), (4, zj.toArray), (5, (fm zz).cells), (6, (fm l1).cells), (7, (fm yy).cells)]) G) := by
          intro yy h_yy s l
          subst hQ
          refine n_then ?_
          dsimp only [SL.sets, AL.sets]
          refine v_seq ?_
          generalize hQ : thenQ _ _ = Q'
          have tail : ∀ (f1 : Fp), f1 = X * yy → ∀ s l, Q' .normal (S (SL.sets s [(0, pf b), (3, .int .u64 0), (4, .int .u64 0), (5, .int .u64 0), (6, .int .u64 0), (7, .int .u64 0), (8, .int .u64 0)]) (AL.sets l [(3, jcells X Y Z), (4, zj.toArray), (5, (fm zz).cells), (6, (fm l1).cells), (7, (fm yy).cells), (8, (fm f1).cells)]) G) := by
            intro f1 h_f1 s l
            subst hQ
            refine n_then ?_
            dsimp only [SL.sets, AL.sets]
            refine v_seq ?_
            generalize hQ : thenQ _ _ = Q'
            have tail : ∀ (f2 : Fp), f2 = f1 + f1 → ∀ s l, Q' .normal (S (SL.sets s [(0, pf b), (3, .int .u64 0), (4, .int .u64 0), (5, .int .u64 0), (6, .int .u64 0), (7, .int .u64 0), (8, .int .u64 0)]) (AL.sets l [(3, jcells X Y Z), (4, zj.toArray), (5, (fm zz).cells), (6, (fm l1).cells), (7, (fm yy).cells), (8, (fm f2).cells)]) G) := by
              intro f2 h_f2 s l
              subst hQ
              refine n_then ?_
              dsimp only [SL.sets, AL.sets]
              refine v_seq ?_
              generalize hQ : thenQ _ _ = Q'
              have tail : ∀ (f4 : Fp), f4 = f2 + f2 → ∀ s l, Q' .normal (S (SL.sets s [(0, pf b), (3, .int .u64 0), (4, .int .u64 0), (5, .int .u64 0), (6, .int .u64 0), (7, .int .u64 0), (8, .int .u64 0)]) (AL.sets l [(3, jcells X Y Z), (4, zj.toArray), (5, (fm zz).cells), (6, (fm l1).cells), (7, (fm yy).cells), (8, (fm f4).cells)]) G) := by
                intro f4 h_f4 s l
                subst hQ
                refine n_then ?_
                dsimp only [SL.sets, AL.sets]
                refine v_seq ?_
                generalize hQ : thenQ _ _ = Q'
                have tail : ∀ (x3 : Fp), x3 = l1 * l1 - (f4 + f4) → ∀ s l, Q' .normal (S (SL.sets s [(0, pf b), (3, .int .u64 0), (4, .int .u64 0), (5, .int .u64 0), (6, .int .u64 0), (7, .int .u64 0), (8, .int .u64 0), (9, .int .u64 0)]) (AL.sets l [(3, jcells X Y Z), (4, zj.toArray), (5, (fm zz).cells), (6, (fm l1).cells), (7, (fm yy).cells), (8, (fm f4).cells), (9, (fm x3).cells)]) G) := by
                  intro x3 h_x3 s l
                  subst hQ
                  refine n_then ?_
                  dsimp only [SL.sets, AL.sets]
                  refine v_seq ?_
                  generalize hQ : thenQ _ _ = Q'
                  have tail : ∀ (yz : Fp), yz = Y * Z → ∀ s l, Q' .normal (S (SL.sets s [(0, pf b), (3, .int .u64 0), (4, .int .u64 0), (5, .int .u64 0), (6, .int .u64 0), (7, .int .u64 0), (8, .int .u64 0), (9, .int .u64 0), (10, .int .u64 0)]) (AL.sets l [(3, jcells X Y Z), (4, zj.toArray), (5, (fm zz).cells), (6, (fm l1).cells), (7, (fm yy).cells), (8, (fm f4).cells), (9, (fm x3).cells), (10, (fm yz).cells)]) G) := by
                    intro yz h_yz s l
                    subst hQ
                    refine n_then ?_
                    dsimp only [SL.sets, AL.sets]
                    refine v_seq ?_
                    generalize hQ : thenQ _ _ = Q'
                    have tail : ∀ (e1 : Fp), e1 = yy * yy → ∀ s l, Q' .normal (S (SL.sets s [(0, pf b), (3, .int .u64 0), (4, .int .u64 0), (5, .int .u64 0), (6, .int .u64 0), (7, .int .u64 0), (8, .int .u64 0), (9, .int .u64 0), (10, .int .u64 0), (11, .int .u64 0)]) (AL.sets l [(3, jcells X Y Z), (4, zj.toArray), (5, (fm zz).cells), (6, (fm l1).cells), (7, (fm yy).cells), (8, (fm f4).cells), (9, (fm x3).cells), (10, (fm yz).cells), (11, (fm e1).cells)]) G) := by
                      intro e1 h_e1 s l
                      subst hQ
                      refine n_then ?_
                      dsimp only [SL.sets, AL.sets]
                      refine v_seq ?_
                      generalize hQ : thenQ _ _ = Q'
                      have tail : ∀ (e2 : Fp), e2 = e1 + e1 → ∀ s l, Q' .normal (S (SL.sets s [(0, pf b), (3, .int .u64 0), (4, .int .u64 0), (5, .int .u64 0), (6, .int .u64 0), (7, .int .u64 0), (8, .int .u64 0), (9, .int .u64 0), (10, .int .u64 0), (11, .int .u64 0)]) (AL.sets l [(3, jcells X Y Z), (4, zj.toArray), (5, (fm zz).cells), (6, (fm l1).cells), (7, (fm yy).cells), (8, (fm f4).cells), (9, (fm x3).cells), (10, (fm yz).cells), (11, (fm e2).cells)]) G) := by
                        intro e2 h_e2 s l
                        subst hQ
                        refine n_then ?_
                        dsimp only [SL.sets, AL.sets]
                        refine v_seq ?_
                        generalize hQ : thenQ _ _ = Q'
                        have tail : ∀ (e4 : Fp), e4 = e2 + e2 → ∀ s l, Q' .normal (S (SL.sets s [(0, pf b), (3, .int .u64 0), (4, .int .u64 0), (5, .int .u64 0), (6, .int .u64 0), (7, .int .u64 0), (8, .int .u64 0), (9, .int .u64 0), (10, .int .u64 0), (11, .int .u64 0)]) (AL.sets l [(3, jcells X Y Z), (4, zj.toArray), (5, (fm zz).cells), (6, (fm l1).cells), (7, (fm yy).cells), (8, (fm f4).cells), (9, (fm x3).cells), (10, (fm yz).cells), (11, (fm e4).cells)]) G) := by
                          intro e4 h_e4 s l
                          subst hQ
                          refine n_then ?_
                          dsimp only [SL.sets, AL.sets]
                          refine v_seq ?_
                          generalize hQ : thenQ _ _ = Q'
                          have tail : ∀ (e8 : Fp), e8 = e4 + e4 → ∀ s l, Q' .normal (S (SL.sets s [(0, pf b), (3, .int .u64 0), (4, .int .u64 0), (5, .int .u64 0), (6, .int .u64 0), (7, .int .u64 0), (8, .int .u64 0), (9, .int .u64 0), (10, .int .u64 0), (11, .int .u64 0)]) (AL.sets l [(3, jcells X Y Z), (4, zj.toArray), (5, (fm zz).cells), (6, (fm l1).cells), (7, (fm yy).cells), (8, (fm f4).cells), (9, (fm x3).cells), (10, (fm yz).cells), (11, (fm e8).cells)]) G) := by
                            intro e8 h_e8 s l
                            subst hQ
                            refine n_then ?_
                            dsimp only [SL.sets, AL.sets]
                            (repeat' (first | (with_reducible refine i_ops ?_; first | (refine g_mv ?_; refine s_mv ?_) | refine o_nil ?_ | (refine g_build ?_; refine s_bj3 ?_) | (refine g_lload ?_; refine s_lloadM ?_) | (refine g_lstore ?_; refine s_lstoreJ ?_)) | (with_reducible refine i_vc ?_; first | refine v_seq ?_ | refine v_ret ?_ | refine v_draw0 ?_) | (with_reducible refine i_plan ?_; first | refine p_done ?_ | refine s_pre ?_ | refine p_callp qrf (by first | exact subM b _ _ G F | exact mulM b _ _ G F | exact addM b _ _ G F) qle ?_ p_no | refine s_alt ?_) | (with_reducible first | refine n_then ?_ | (refine g_stand ?_; refine s_standL ?_)) | ((with_reducible refine s_ret ?_); try simp only [x_tup0, x_tup1, x_tup2, x_tup3, x_tup4, x_tup5, and_true, true_and])))
                            rw [j_ext]
                            subst h_e8 h_e4 h_e2 h_e1 h_yz h_x3 h_f4 h_f2 h_f1 h_yy h_l1 h_l0 h_zz
                            rfl
                          clear hQ
                          (repeat' (first | (with_reducible refine i_ops ?_; first | (refine g_mv ?_; refine s_mv ?_) | refine o_nil ?_ | (refine g_lload ?_; refine s_lloadM ?_) | (refine g_lstore ?_; refine s_lstoreM ?_) | refine o_callp qrf (by exact addM b _ _ G F) ?_) | (with_reducible refine i_vc ?_; refine v_ops ?_)))
                          all_goals exact k_trim [(0, pf b), (3, .int .u64 0), (4, .int .u64 0), (5, .int .u64 0), (6, .int .u64 0), (7, .int .u64 0), (8, .int .u64 0), (9, .int .u64 0), (10, .int .u64 0), (11, .int .u64 0)] [(3, jcells X Y Z), (4, zj.toArray), (5, (fm zz).cells), (6, (fm l1).cells), (7, (fm yy).cells), (8, (fm f4).cells), (9, (fm x3).cells), (10, (fm yz).cells), (11, (fm (e4 + e4)).cells)] qhs qhl (tail _ rfl)
                        clear hQ
                        (repeat' (first | (with_reducible refine i_ops ?_; first | (refine g_mv ?_; refine s_mv ?_) | refine o_nil ?_ | (refine g_lload ?_; refine s_lloadM ?_) | (refine g_lstore ?_; refine s_lstoreM ?_) | refine o_callp qrf (by exact addM b _ _ G F) ?_) | (with_reducible refine i_vc ?_; refine v_ops ?_)))
                        all_goals exact k_trim [(0, pf b), (3, .int .u64 0), (4, .int .u64 0), (5, .int .u64 0), (6, .int .u64 0), (7, .int .u64 0), (8, .int .u64 0), (9, .int .u64 0), (10, .int .u64 0), (11, .int .u64 0)] [(3, jcells X Y Z), (4, zj.toArray), (5, (fm zz).cells), (6, (fm l1).cells), (7, (fm yy).cells), (8, (fm f4).cells), (9, (fm x3).cells), (10, (fm yz).cells), (11, (fm (e2 + e2)).cells)] qhs qhl (tail _ rfl)
                      clear hQ
                      (repeat' (first | (with_reducible refine i_ops ?_; first | (refine g_mv ?_; refine s_mv ?_) | refine o_nil ?_ | (refine g_lload ?_; refine s_lloadM ?_) | (refine g_lstore ?_; refine s_lstoreM ?_) | refine o_callp qrf (by exact addM b _ _ G F) ?_) | (with_reducible refine i_vc ?_; refine v_ops ?_)))
                      all_goals exact k_trim [(0, pf b), (3, .int .u64 0), (4, .int .u64 0), (5, .int .u64 0), (6, .int .u64 0), (7, .int .u64 0), (8, .int .u64 0), (9, .int .u64 0), (10, .int .u64 0), (11, .int .u64 0)] [(3, jcells X Y Z), (4, zj.toArray), (5, (fm zz).cells), (6, (fm l1).cells), (7, (fm yy).cells), (8, (fm f4).cells), (9, (fm x3).cells), (10, (fm yz).cells), (11, (fm (e1 + e1)).cells)] qhs qhl (tail _ rfl)
                    clear hQ
                    (repeat' (first | (with_reducible refine i_ops ?_; first | (refine g_mv ?_; refine s_mv ?_) | refine o_nil ?_ | (refine g_lload ?_; refine s_lloadM ?_) | (refine g_lstore ?_; refine s_lstoreM ?_) | (refine g_lalloc ?_; refine s_lalloc ?_) | refine o_callp qrf (by exact mulM b _ _ G F) ?_) | (with_reducible refine i_vc ?_; refine v_ops ?_)))
                    all_goals exact k_trim [(0, pf b), (3, .int .u64 0), (4, .int .u64 0), (5, .int .u64 0), (6, .int .u64 0), (7, .int .u64 0), (8, .int .u64 0), (9, .int .u64 0), (10, .int .u64 0), (11, .int .u64 0)] [(3, jcells X Y Z), (4, zj.toArray), (5, (fm zz).cells), (6, (fm l1).cells), (7, (fm yy).cells), (8, (fm f4).cells), (9, (fm x3).cells), (10, (fm yz).cells), (11, (fm (yy * yy)).cells)] qhs qhl (tail _ rfl)
                  clear hQ
                  (repeat' (first | (with_reducible refine i_ops ?_; first | (refine g_mv ?_; refine s_mv ?_) | refine o_nil ?_ | (refine g_lfield ?_; refine s_lfield ?_) | (refine g_lload ?_; first | refine s_lloadJY ?_ | refine s_lloadJZ ?_) | (refine g_lstore ?_; refine s_lstoreM ?_) | (refine g_lalloc ?_; refine s_lalloc ?_) | refine o_callp qrf (by exact mulM b _ _ G F) ?_) | (with_reducible refine i_vc ?_; refine v_ops ?_)))
                  all_goals exact k_trim [(0, pf b), (3, .int .u64 0), (4, .int .u64 0), (5, .int .u64 0), (6, .int .u64 0), (7, .int .u64 0), (8, .int .u64 0), (9, .int .u64 0), (10, .int .u64 0)] [(3, jcells X Y Z), (4, zj.toArray), (5, (fm zz).cells), (6, (fm l1).cells), (7, (fm yy).cells), (8, (fm f4).cells), (9, (fm x3).cells), (10, (fm (Y * Z)).cells)] qhs qhl (tail _ rfl)
                clear hQ
                (repeat' (first | (with_reducible refine i_ops ?_; first | (refine g_mv ?_; refine s_mv ?_) | refine o_nil ?_ | (refine g_lload ?_; refine s_lloadM ?_) | (refine g_lstore ?_; refine s_lstoreM ?_) | (refine g_lalloc ?_; refine s_lalloc ?_) | refine o_callp qrf (by first | exact mulM b _ _ G F | exact addM b _ _ G F | exact subM b _ _ G F) ?_) | (with_reducible refine i_vc ?_; refine v_draw0 ?_) | (with_reducible refine i_plan ?_; first | refine p_done ?_ | refine s_pre ?_ | refine p_callp qrf (by first | exact mulM b _ _ G F | exact addM b _ _ G F | exact subM b _ _ G F) qle ?_ p_no | refine s_alt ?_ | refine p_alt ?_ ?_) | (with_reducible (refine g_stand ?_; first | refine s_stand ?_ | refine s_standL ?_))))
                all_goals exact k_trim [(0, pf b), (3, .int .u64 0), (4, .int .u64 0), (5, .int .u64 0), (6, .int .u64 0), (7, .int .u64 0), (8, .int .u64 0), (9, .int .u64 0)] [(3, jcells X Y Z), (4, zj.toArray), (5, (fm zz).cells), (6, (fm l1).cells), (7, (fm yy).cells), (8, (fm f4).cells), (9, (fm (l1 * l1 - (f4 + f4))).cells)] qhs qhl (tail _ rfl)
              clear hQ
              (repeat' (first | (with_reducible refine i_ops ?_; first | (refine g_mv ?_; refine s_mv ?_) | refine o_nil ?_ | (refine g_lload ?_; refine s_lloadM ?_) | (refine g_lstore ?_; refine s_lstoreM ?_) | refine o_callp qrf (by exact addM b _ _ G F) ?_) | (with_reducible refine i_vc ?_; refine v_ops ?_)))
              all_goals exact k_trim [(0, pf b), (3, .int .u64 0), (4, .int .u64 0), (5, .int .u64 0), (6, .int .u64 0), (7, .int .u64 0), (8, .int .u64 0)] [(3, jcells X Y Z), (4, zj.toArray), (5, (fm zz).cells), (6, (fm l1).cells), (7, (fm yy).cells), (8, (fm (f2 + f2)).cells)] qhs qhl (tail _ rfl)
            clear hQ
            (repeat' (first | (with_reducible refine i_ops ?_; first | (refine g_mv ?_; refine s_mv ?_) | refine o_nil ?_ | (refine g_lload ?_; refine s_lloadM ?_) | (refine g_lstore ?_; refine s_lstoreM ?_) | refine o_callp qrf (by exact addM b _ _ G F) ?_) | (with_reducible refine i_vc ?_; refine v_ops ?_)))
            all_goals exact k_trim [(0, pf b), (3, .int .u64 0), (4, .int .u64 0), (5, .int .u64 0), (6, .int .u64 0), (7, .int .u64 0), (8, .int .u64 0)] [(3, jcells X Y Z), (4, zj.toArray), (5, (fm zz).cells), (6, (fm l1).cells), (7, (fm yy).cells), (8, (fm (f1 + f1)).cells)] qhs qhl (tail _ rfl)
          clear hQ
          (repeat' (first | (with_reducible refine i_ops ?_; first | (refine g_mv ?_; refine s_mv ?_) | refine o_nil ?_ | (refine g_lfield ?_; refine s_lfield ?_) | (refine g_lload ?_; first | refine s_lloadJX ?_ | refine s_lloadM ?_) | (refine g_lstore ?_; refine s_lstoreM ?_) | (refine g_lalloc ?_; refine s_lalloc ?_) | refine o_callp qrf (by exact mulM b _ _ G F) ?_) | (with_reducible refine i_vc ?_; refine v_ops ?_)))
          all_goals exact k_trim [(0, pf b), (3, .int .u64 0), (4, .int .u64 0), (5, .int .u64 0), (6, .int .u64 0), (7, .int .u64 0), (8, .int .u64 0)] [(3, jcells X Y Z), (4, zj.toArray), (5, (fm zz).cells), (6, (fm l1).cells), (7, (fm yy).cells), (8, (fm (X * yy)).cells)] qhs qhl (tail _ rfl)
        clear hQ
        (repeat' (first | (with_reducible refine i_ops ?_; first | (refine g_mv ?_; refine s_mv ?_) | refine o_nil ?_ | (refine g_lfield ?_; refine s_lfield ?_) | (refine g_lload ?_; refine s_lloadJY ?_) | (refine g_lstore ?_; refine s_lstoreM ?_) | (refine g_lalloc ?_; refine s_lalloc ?_) | refine o_callp qrf (by exact mulM b _ _ G F) ?_) | (with_reducible refine i_vc ?_; refine v_ops ?_)))
        all_goals exact k_trim [(0, pf b), (3, .int .u64 0), (4, .int .u64 0), (5, .int .u64 0), (6, .int .u64 0), (7, .int .u64 0)] [(3, jcells X Y Z), (4, zj.toArray), (5, (fm zz).cells), (6, (fm l1).cells), (7, (fm (Y * Y)).cells)] qhs qhl (tail _ rfl)
      clear hQ
      (repeat' (first | (with_reducible refine i_ops ?_; first | (refine g_mv ?_; refine s_mv ?_) | refine o_nil ?_ | (refine g_lload ?_; refine s_lloadM ?_) | (refine g_lstore ?_; refine s_lstoreM ?_) | refine o_callp qrf (by exact addM b _ _ G F) ?_) | (with_reducible refine i_vc ?_; refine v_draw0 ?_) | (with_reducible refine i_plan ?_; first | refine p_done ?_ | refine s_pre ?_ | refine p_callp qrf (by exact addM b _ _ G F) qle ?_ p_no | refine s_alt ?_ | refine p_alt ?_ ?_) | (with_reducible (refine g_stand ?_; first | refine s_stand ?_ | refine s_standL ?_))))
      all_goals exact k_trim [(0, pf b), (3, .int .u64 0), (4, .int .u64 0), (5, .int .u64 0), (6, .int .u64 0)] [(3, jcells X Y Z), (4, zj.toArray), (5, (fm zz).cells), (6, (fm (l0 + l0 + l0)).cells)] qhs qhl (tail _ rfl)
    clear hQ
    (repeat' (first | (with_reducible refine i_ops ?_; first | (refine g_mv ?_; refine s_mv ?_) | refine o_nil ?_ | (refine g_lfield ?_; refine s_lfield ?_) | (refine g_lload ?_; first | refine s_lloadJX ?_ | refine s_lloadM ?_) | (refine g_lstore ?_; refine s_lstoreM ?_) | (refine g_lalloc ?_; refine s_lalloc ?_) | refine o_callp qrf (by first | exact subM b _ _ G F | exact addM b _ _ G F | exact mulM b _ _ G F) ?_) | (with_reducible refine i_vc ?_; refine v_draw0 ?_) | (with_reducible refine i_plan ?_; first | refine p_done ?_ | refine s_pre ?_ | refine p_callp qrf (by first | exact subM b _ _ G F | exact addM b _ _ G F | exact mulM b _ _ G F) qle ?_ p_no | refine s_alt ?_ | refine p_alt ?_ ?_) | (with_reducible (refine g_stand ?_; first | refine s_stand ?_ | refine s_standL ?_))))
    all_goals exact k_trim [(0, pf b), (3, .int .u64 0), (4, .int .u64 0), (5, .int .u64 0), (6, .int .u64 0)] [(3, jcells X Y Z), (4, zj.toArray), (5, (fm zz).cells), (6, (fm ((X - zz) * (X + zz))).cells)] qhs qhl (tail _ rfl)
  clear hQ
  (repeat' (first | (with_reducible refine i_ops ?_; first | (refine g_mv ?_; refine s_mv ?_) | refine o_nil ?_ | (refine g_lfield ?_; refine s_lfield ?_) | (refine g_lload ?_; refine s_lloadJZ ?_) | (refine g_lstore ?_; refine s_lstoreM ?_) | (refine g_lalloc ?_; refine s_lalloc ?_) | refine o_callp qrf (by exact mulM b _ _ G F) ?_) | (with_reducible refine i_vc ?_; refine v_ops ?_)))
  all_goals exact k_trim [(0, pf b), (3, .int .u64 0), (4, .int .u64 0), (5, .int .u64 0)] [(3, jcells X Y Z), (4, zj.toArray), (5, (fm (Z * Z)).cells)] qhs qhl (tail _ rfl)
end Go.Proofs.Ytdeihgcgglhhcaa.V
end
section
/- The document's sum (LF) of places. -/
set_option linter.unusedSimpArgs false
set_option linter.unusedVariables false
set_option maxRecDepth 20000
-- @extra s_nilck s_fptr0
-- @pre g_lload s_lloadJ s_lloadJX s_lloadJY s_lloadJZ s_lloadM
-- @pre g_lstore s_lstoreJ s_lstoreM
-- @pre g_lbox s_lboxJ s_lboxM
-- @pre g_build s_bm0 s_bj3
namespace Go.Proofs.Ytdeihgcgglhhcaa.V
open Go.RowKit Go.ChangeShapes Go.WideShapes
def pd45_0 : PC := (.draw [4, 5] (.take 0 ⟨none, (some 28), (.pure 28 .mv [(.tmp 0)])⟩ (.take 1 ⟨none, (some 29), (.lfield 29 4 16)⟩ (.take 2 ⟨none, (some 30), (.lload 30 4 29 8 true)⟩ (.take 3 ⟨none, (some 31), (.lfield 31 4 16)⟩ (.take 4 ⟨none, (some 32), (.lload 32 4 31 8 true)⟩ (.take 6 ⟨none, (some 34), (.pure 34 .mv [(.tmp 0)])⟩ (.take 7 ⟨none, (some 35), (.lfield 35 5 16)⟩ (.take 8 ⟨none, (some 36), (.lload 36 5 35 8 true)⟩ (.take 9 ⟨none, (some 37), (.lfield 37 5 16)⟩ (.take 10 ⟨none, (some 38), (.lload 38 5 37 8 true)⟩ (.alt 5 ⟨none, (some 33), (.call (some 33) 40 [(.tmp 28), (.tmp 30), (.tmp 32)])⟩ (.alt 11 ⟨none, (some 39), (.call (some 39) 40 [(.tmp 34), (.tmp 36), (.tmp 38)])⟩ (.alt 12 ⟨none, (some 7), (.lalloc 7 7 #[(.int .u64 0), (.int .u64 0), (.int .u64 0), (.int .u64 0), (.int .u64 0), (.int .u64 0), (.int .u64 0), (.int .u64 0)])⟩ (.alt 13 ⟨none, (some 8), (.lalloc 8 8 #[(.int .u64 0), (.int .u64 0), (.int .u64 0), (.int .u64 0), (.int .u64 0), (.int .u64 0), (.int .u64 0), (.int .u64 0)])⟩ (.alt 14 ⟨none, none, (.lstore 7 7 8 (.tmp 33))⟩ (.alt 15 ⟨none, none, (.lstore 8 8 8 (.tmp 39))⟩ .done .no) .no) .no) (.alt 13 ⟨none, (some 8), (.lalloc 8 8 #[(.int .u64 0), (.int .u64 0), (.int .u64 0), (.int .u64 0), (.int .u64 0), (.int .u64 0), (.int .u64 0), (.int .u64 0)])⟩ (.alt 12 ⟨none, (some 7), (.lalloc 7 7 #[(.int .u64 0), (.int .u64 0), (.int .u64 0), (.int .u64 0), (.int .u64 0), (.int .u64 0), (.int .u64 0), (.int .u64 0)])⟩ (.alt 14 ⟨none, none, (.lstore 7 7 8 (.tmp 33))⟩ (.alt 15 ⟨none, none, (.lstore 8 8 8 (.tmp 39))⟩ .done .no) .no) .no) .no)) (.alt 12 ⟨none, (some 7), (.lalloc 7 7 #[(.int .u64 0), (.int .u64 0), (.int .u64 0), (.int .u64 0), (.int .u64 0), (.int .u64 0), (.int .u64 0), (.int .u64 0)])⟩ (.alt 11 ⟨none, (some 39), (.call (some 39) 40 [(.tmp 34), (.tmp 36), (.tmp 38)])⟩ (.alt 13 ⟨none, (some 8), (.lalloc 8 8 #[(.int .u64 0), (.int .u64 0), (.int .u64 0), (.int .u64 0), (.int .u64 0), (.int .u64 0), (.int .u64 0), (.int .u64 0)])⟩ (.alt 14 ⟨none, none, (.lstore 7 7 8 (.tmp 33))⟩ (.alt 15 ⟨none, none, (.lstore 8 8 8 (.tmp 39))⟩ .done .no) .no) .no) (.alt 13 ⟨none, (some 8), (.lalloc 8 8 #[(.int .u64 0), (.int .u64 0), (.int .u64 0), (.int .u64 0), (.int .u64 0), (.int .u64 0), (.int .u64 0), (.int .u64 0)])⟩ (.alt 11 ⟨none, (some 39), (.call (some 39) 40 [(.tmp 34), (.tmp 36), (.tmp 38)])⟩ (.alt 14 ⟨none, none, (.lstore 7 7 8 (.tmp 33))⟩ (.alt 15 ⟨none, none, (.lstore 8 8 8 (.tmp 39))⟩ .done .no) .no) .no) .no)) (.alt 13 ⟨none, (some 8), (.lalloc 8 8 #[(.int .u64 0), (.int .u64 0), (.int .u64 0), (.int .u64 0), (.int .u64 0), (.int .u64 0), (.int .u64 0), (.int .u64 0)])⟩ (.alt 11 ⟨none, (some 39), (.call (some 39) 40 [(.tmp 34), (.tmp 36), (.tmp 38)])⟩ (.alt 12 ⟨none, (some 7), (.lalloc 7 7 #[(.int .u64 0), (.int .u64 0), (.int .u64 0), (.int .u64 0), (.int .u64 0), (.int .u64 0), (.int .u64 0), (.int .u64 0)])⟩ (.alt 14 ⟨none, none, (.lstore 7 7 8 (.tmp 33))⟩ (.alt 15 ⟨none, none, (.lstore 8 8 8 (.tmp 39))⟩ .done .no) .no) .no) (.alt 12 ⟨none, (some 7), (.lalloc 7 7 #[(.int .u64 0), (.int .u64 0), (.int .u64 0), (.int .u64 0), (.int .u64 0), (.int .u64 0), (.int .u64 0), (.int .u64 0)])⟩ (.alt 11 ⟨none, (some 39), (.call (some 39) 40 [(.tmp 34), (.tmp 36), (.tmp 38)])⟩ (.alt 14 ⟨none, none, (.lstore 7 7 8 (.tmp 33))⟩ (.alt 15 ⟨none, none, (.lstore 8 8 8 (.tmp 39))⟩ .done .no) .no) .no) .no)) .no))) (.alt 12 ⟨none, (some 7), (.lalloc 7 7 #[(.int .u64 0), (.int .u64 0), (.int .u64 0), (.int .u64 0), (.int .u64 0), (.int .u64 0), (.int .u64 0), (.int .u64 0)])⟩ (.alt 5 ⟨none, (some 33), (.call (some 33) 40 [(.tmp 28), (.tmp 30), (.tmp 32)])⟩ (.alt 11 ⟨none, (some 39), (.call (some 39) 40 [(.tmp 34), (.tmp 36), (.tmp 38)])⟩ (.alt 13 ⟨none, (some 8), (.lalloc 8 8 #[(.int .u64 0), (.int .u64 0), (.int .u64 0), (.int .u64 0), (.int .u64 0), (.int .u64 0), (.int .u64 0), (.int .u64 0)])⟩ (.alt 14 ⟨none, none, (.lstore 7 7 8 (.tmp 33))⟩ (.alt 15 ⟨none, none, (.lstore 8 8 8 (.tmp 39))⟩ .done .no) .no) .no) (.alt 13 ⟨none, (some 8), (.lalloc 8 8 #[(.int .u64 0), (.int .u64 0), (.int .u64 0), (.int .u64 0), (.int .u64 0), (.int .u64 0), (.int .u64 0), (.int .u64 0)])⟩ (.alt 11 ⟨none, (some 39), (.call (some 39) 40 [(.tmp 34), (.tmp 36), (.tmp 38)])⟩ (.alt 14 ⟨none, none, (.lstore 7 7 8 (.tmp 33))⟩ (.alt 15 ⟨none, none, (.lstore 8 8 8 (.tmp 39))⟩ .done .no) .no) .no) .no)) (.alt 13 ⟨none, (some 8), (.lalloc 8 8 #[(.int .u64 0), (.int .u64 0), (.int .u64 0), (.int .u64 0), (.int .u64 0), (.int .u64 0), (.int .u64 0), (.int .u64 0)])⟩ (.alt 5 ⟨none, (some 33), (.call (some 33) 40 [(.tmp 28), (.tmp 30), (.tmp 32)])⟩ (.alt 11 ⟨none, (some 39), (.call (some 39) 40 [(.tmp 34), (.tmp 36), (.tmp 38)])⟩ (.alt 14 ⟨none, none, (.lstore 7 7 8 (.tmp 33))⟩ (.alt 15 ⟨none, none, (.lstore 8 8 8 (.tmp 39))⟩ .done .no) .no) .no) .no) .no)) (.alt 13 ⟨none, (some 8), (.lalloc 8 8 #[(.int .u64 0), (.int .u64 0), (.int .u64 0), (.int .u64 0), (.int .u64 0), (.int .u64 0), (.int .u64 0), (.int .u64 0)])⟩ (.alt 5 ⟨none, (some 33), (.call (some 33) 40 [(.tmp 28), (.tmp 30), (.tmp 32)])⟩ (.alt 11 ⟨none, (some 39), (.call (some 39) 40 [(.tmp 34), (.tmp 36), (.tmp 38)])⟩ (.alt 12 ⟨none, (some 7), (.lalloc 7 7 #[(.int .u64 0), (.int .u64 0), (.int .u64 0), (.int .u64 0), (.int .u64 0), (.int .u64 0), (.int .u64 0), (.int .u64 0)])⟩ (.alt 14 ⟨none, none, (.lstore 7 7 8 (.tmp 33))⟩ (.alt 15 ⟨none, none, (.lstore 8 8 8 (.tmp 39))⟩ .done .no) .no) .no) (.alt 12 ⟨none, (some 7), (.lalloc 7 7 #[(.int .u64 0), (.int .u64 0), (.int .u64 0), (.int .u64 0), (.int .u64 0), (.int .u64 0), (.int .u64 0), (.int .u64 0)])⟩ (.alt 11 ⟨none, (some 39), (.call (some 39) 40 [(.tmp 34), (.tmp 36), (.tmp 38)])⟩ (.alt 14 ⟨none, none, (.lstore 7 7 8 (.tmp 33))⟩ (.alt 15 ⟨none, none, (.lstore 8 8 8 (.tmp 39))⟩ .done .no) .no) .no) .no)) (.alt 12 ⟨none, (some 7), (.lalloc 7 7 #[(.int .u64 0), (.int .u64 0), (.int .u64 0), (.int .u64 0), (.int .u64 0), (.int .u64 0), (.int .u64 0), (.int .u64 0)])⟩ (.alt 5 ⟨none, (some 33), (.call (some 33) 40 [(.tmp 28), (.tmp 30), (.tmp 32)])⟩ (.alt 11 ⟨none, (some 39), (.call (some 39) 40 [(.tmp 34), (.tmp 36), (.tmp 38)])⟩ (.alt 14 ⟨none, none, (.lstore 7 7 8 (.tmp 33))⟩ (.alt 15 ⟨none, none, (.lstore 8 8 8 (.tmp 39))⟩ .done .no) .no) .no) .no) .no)) .no))))))))))))))
set_option maxHeartbeats 4000000 in
theorem sg0 {Q' : Exit → St → Prop} {G : GH} {b : Nat} {Xa Ya Za Xb Yb Zb : Fp} (hf : FW G b) (tail : ∀ s l, Q' .normal (S (SL.sets s [(0, pf b), (4, .int .u64 0), (5, .int .u64 0), (6, .int .u64 0), (7, .int .u64 0), (8, .int .u64 0)]) (AL.sets l [(4, jcells Xa Ya Za), (5, jcells Xb Yb Zb), (6, zj.toArray), (7, (fm (Za * Za)).cells), (8, (fm (Zb * Zb)).cells)]) G)) (s : Nat → Value) (l : Nat → Array Value) : vc Try.prog E45 pd45_0 Q' (S (SL.sets s [(0, pf b), (4, .int .u64 0), (5, .int .u64 0), (6, .int .u64 0)]) (AL.sets l [(4, jcells Xa Ya Za), (5, jcells Xb Yb Zb), (6, zj.toArray)]) G) := by
  have F := hf.fo
  dsimp only [SL.sets, AL.sets]
  delta pd45_0
  (repeat' (first | (with_reducible refine i_ops ?_; first | (refine g_mv ?_; refine s_mv ?_) | refine o_nil ?_ | (refine g_lfield ?_; refine s_lfield ?_) | (refine g_lload ?_; refine s_lloadJZ ?_) | (refine g_lstore ?_; refine s_lstoreM ?_) | (refine g_lalloc ?_; refine s_lalloc ?_) | refine o_callp qrf (by exact mulM b _ _ G F) ?_) | (with_reducible refine i_vc ?_; refine v_draw0 ?_) | (with_reducible refine i_plan ?_; first | refine p_done ?_ | refine s_pre ?_ | refine p_callp qrf (by exact mulM b _ _ G F) qle ?_ p_no | refine s_alt ?_ | refine p_alt ?_ ?_) | (with_reducible (refine g_stand ?_; first | refine s_stand ?_ | refine s_standL ?_))))
  all_goals exact k_trim [(0, pf b), (4, .int .u64 0), (5, .int .u64 0), (6, .int .u64 0), (7, .int .u64 0), (8, .int .u64 0)] [(4, jcells Xa Ya Za), (5, jcells Xb Yb Zb), (6, zj.toArray), (7, (fm (Za * Za)).cells), (8, (fm (Zb * Zb)).cells)] qhs qhl tail
def pd45_1 : PC := (.draw [4, 8, 5, 7] (.take 0 ⟨none, (some 40), (.pure 40 .mv [(.tmp 0)])⟩ (.take 1 ⟨none, (some 41), (.lfield 41 4 0)⟩ (.take 2 ⟨none, (some 42), (.lload 42 4 41 8 true)⟩ (.take 3 ⟨none, (some 43), (.lload 43 8 8 8 true)⟩ (.take 5 ⟨none, (some 45), (.pure 45 .mv [(.tmp 0)])⟩ (.take 6 ⟨none, (some 46), (.lfield 46 5 0)⟩ (.take 7 ⟨none, (some 47), (.lload 47 5 46 8 true)⟩ (.take 8 ⟨none, (some 48), (.lload 48 7 7 8 true)⟩ (.alt 4 ⟨none, (some 44), (.call (some 44) 40 [(.tmp 40), (.tmp 42), (.tmp 43)])⟩ (.alt 9 ⟨none, (some 49), (.call (some 49) 40 [(.tmp 45), (.tmp 47), (.tmp 48)])⟩ (.alt 10 ⟨none, (some 9), (.lalloc 9 9 #[(.int .u64 0), (.int .u64 0), (.int .u64 0), (.int .u64 0), (.int .u64 0), (.int .u64 0), (.int .u64 0), (.int .u64 0)])⟩ (.alt 11 ⟨none, (some 10), (.lalloc 10 10 #[(.int .u64 0), (.int .u64 0), (.int .u64 0), (.int .u64 0), (.int .u64 0), (.int .u64 0), (.int .u64 0), (.int .u64 0)])⟩ (.alt 12 ⟨none, none, (.lstore 9 9 8 (.tmp 44))⟩ (.alt 13 ⟨none, none, (.lstore 10 10 8 (.tmp 49))⟩ .done .no) .no) .no) (.alt 11 ⟨none, (some 10), (.lalloc 10 10 #[(.int .u64 0), (.int .u64 0), (.int .u64 0), (.int .u64 0), (.int .u64 0), (.int .u64 0), (.int .u64 0), (.int .u64 0)])⟩ (.alt 10 ⟨none, (some 9), (.lalloc 9 9 #[(.int .u64 0), (.int .u64 0), (.int .u64 0), (.int .u64 0), (.int .u64 0), (.int .u64 0), (.int .u64 0), (.int .u64 0)])⟩ (.alt 12 ⟨none, none, (.lstore 9 9 8 (.tmp 44))⟩ (.alt 13 ⟨none, none, (.lstore 10 10 8 (.tmp 49))⟩ .done .no) .no) .no) .no)) (.alt 10 ⟨none, (some 9), (.lalloc 9 9 #[(.int .u64 0), (.int .u64 0), (.int .u64 0), (.int .u64 0), (.int .u64 0), (.int .u64 0), (.int .u64 0), (.int .u64 0)])⟩ (.alt 9 ⟨none, (some 49), (.call (some 49) 40 [(.tmp 45), (.tmp 47), (.tmp 48)])⟩ (.alt 11 ⟨none, (some 10), (.lalloc 10 10 #[(.int .u64 0), (.int .u64 0), (.int .u64 0), (.int .u64 0), (.int .u64 0), (.int .u64 0), (.int .u64 0), (.int .u64 0)])⟩ (.alt 12 ⟨none, none, (.lstore 9 9 8 (.tmp 44))⟩ (.alt 13 ⟨none, none, (.lstore 10 10 8 (.tmp 49))⟩ .done .no) .no) .no) (.alt 11 ⟨none, (some 10), (.lalloc 10 10 #[(.int .u64 0), (.int .u64 0), (.int .u64 0), (.int .u64 0), (.int .u64 0), (.int .u64 0), (.int .u64 0), (.int .u64 0)])⟩ (.alt 9 ⟨none, (some 49), (.call (some 49) 40 [(.tmp 45), (.tmp 47), (.tmp 48)])⟩ (.alt 12 ⟨none, none, (.lstore 9 9 8 (.tmp 44))⟩ (.alt 13 ⟨none, none, (.lstore 10 10 8 (.tmp 49))⟩ .done .no) .no) .no) .no)) (.alt 11 ⟨none, (some 10), (.lalloc 10 10 #[(.int .u64 0), (.int .u64 0), (.int .u64 0), (.int .u64 0), (.int .u64 0), (.int .u64 0), (.int .u64 0), (.int .u64 0)])⟩ (.alt 9 ⟨none, (some 49), (.call (some 49) 40 [(.tmp 45), (.tmp 47), (.tmp 48)])⟩ (.alt 10 ⟨none, (some 9), (.lalloc 9 9 #[(.int .u64 0), (.int .u64 0), (.int .u64 0), (.int .u64 0), (.int .u64 0), (.int .u64 0), (.int .u64 0), (.int .u64 0)])⟩ (.alt 12 ⟨none, none, (.lstore 9 9 8 (.tmp 44))⟩ (.alt 13 ⟨none, none, (.lstore 10 10 8 (.tmp 49))⟩ .done .no) .no) .no) (.alt 10 ⟨none, (some 9), (.lalloc 9 9 #[(.int .u64 0), (.int .u64 0), (.int .u64 0), (.int .u64 0), (.int .u64 0), (.int .u64 0), (.int .u64 0), (.int .u64 0)])⟩ (.alt 9 ⟨none, (some 49), (.call (some 49) 40 [(.tmp 45), (.tmp 47), (.tmp 48)])⟩ (.alt 12 ⟨none, none, (.lstore 9 9 8 (.tmp 44))⟩ (.alt 13 ⟨none, none, (.lstore 10 10 8 (.tmp 49))⟩ .done .no) .no) .no) .no)) .no))) (.alt 10 ⟨none, (some 9), (.lalloc 9 9 #[(.int .u64 0), (.int .u64 0), (.int .u64 0), (.int .u64 0), (.int .u64 0), (.int .u64 0), (.int .u64 0), (.int .u64 0)])⟩ (.alt 4 ⟨none, (some 44), (.call (some 44) 40 [(.tmp 40), (.tmp 42), (.tmp 43)])⟩ (.alt 9 ⟨none, (some 49), (.call (some 49) 40 [(.tmp 45), (.tmp 47), (.tmp 48)])⟩ (.alt 11 ⟨none, (some 10), (.lalloc 10 10 #[(.int .u64 0), (.int .u64 0), (.int .u64 0), (.int .u64 0), (.int .u64 0), (.int .u64 0), (.int .u64 0), (.int .u64 0)])⟩ (.alt 12 ⟨none, none, (.lstore 9 9 8 (.tmp 44))⟩ (.alt 13 ⟨none, none, (.lstore 10 10 8 (.tmp 49))⟩ .done .no) .no) .no) (.alt 11 ⟨none, (some 10), (.lalloc 10 10 #[(.int .u64 0), (.int .u64 0), (.int .u64 0), (.int .u64 0), (.int .u64 0), (.int .u64 0), (.int .u64 0), (.int .u64 0)])⟩ (.alt 9 ⟨none, (some 49), (.call (some 49) 40 [(.tmp 45), (.tmp 47), (.tmp 48)])⟩ (.alt 12 ⟨none, none, (.lstore 9 9 8 (.tmp 44))⟩ (.alt 13 ⟨none, none, (.lstore 10 10 8 (.tmp 49))⟩ .done .no) .no) .no) .no)) (.alt 11 ⟨none, (some 10), (.lalloc 10 10 #[(.int .u64 0), (.int .u64 0), (.int .u64 0), (.int .u64 0), (.int .u64 0), (.int .u64 0), (.int .u64 0), (.int .u64 0)])⟩ (.alt 4 ⟨none, (some 44), (.call (some 44) 40 [(.tmp 40), (.tmp 42), (.tmp 43)])⟩ (.alt 9 ⟨none, (some 49), (.call (some 49) 40 [(.tmp 45), (.tmp 47), (.tmp 48)])⟩ (.alt 12 ⟨none, none, (.lstore 9 9 8 (.tmp 44))⟩ (.alt 13 ⟨none, none, (.lstore 10 10 8 (.tmp 49))⟩ .done .no) .no) .no) .no) .no)) (.alt 11 ⟨none, (some 10), (.lalloc 10 10 #[(.int .u64 0), (.int .u64 0), (.int .u64 0), (.int .u64 0), (.int .u64 0), (.int .u64 0), (.int .u64 0), (.int .u64 0)])⟩ (.alt 4 ⟨none, (some 44), (.call (some 44) 40 [(.tmp 40), (.tmp 42), (.tmp 43)])⟩ (.alt 9 ⟨none, (some 49), (.call (some 49) 40 [(.tmp 45), (.tmp 47), (.tmp 48)])⟩ (.alt 10 ⟨none, (some 9), (.lalloc 9 9 #[(.int .u64 0), (.int .u64 0), (.int .u64 0), (.int .u64 0), (.int .u64 0), (.int .u64 0), (.int .u64 0), (.int .u64 0)])⟩ (.alt 12 ⟨none, none, (.lstore 9 9 8 (.tmp 44))⟩ (.alt 13 ⟨none, none, (.lstore 10 10 8 (.tmp 49))⟩ .done .no) .no) .no) (.alt 10 ⟨none, (some 9), (.lalloc 9 9 #[(.int .u64 0), (.int .u64 0), (.int .u64 0), (.int .u64 0), (.int .u64 0), (.int .u64 0), (.int .u64 0), (.int .u64 0)])⟩ (.alt 9 ⟨none, (some 49), (.call (some 49) 40 [(.tmp 45), (.tmp 47), (.tmp 48)])⟩ (.alt 12 ⟨none, none, (.lstore 9 9 8 (.tmp 44))⟩ (.alt 13 ⟨none, none, (.lstore 10 10 8 (.tmp 49))⟩ .done .no) .no) .no) .no)) (.alt 10 ⟨none, (some 9), (.lalloc 9 9 #[(.int .u64 0), (.int .u64 0), (.int .u64 0), (.int .u64 0), (.int .u64 0), (.int .u64 0), (.int .u64 0), (.int .u64 0)])⟩ (.alt 4 ⟨none, (some 44), (.call (some 44) 40 [(.tmp 40), (.tmp 42), (.tmp 43)])⟩ (.alt 9 ⟨none, (some 49), (.call (some 49) 40 [(.tmp 45), (.tmp 47), (.tmp 48)])⟩ (.alt 12 ⟨none, none, (.lstore 9 9 8 (.tmp 44))⟩ (.alt 13 ⟨none, none, (.lstore 10 10 8 (.tmp 49))⟩ .done .no) .no) .no) .no) .no)) .no))))))))))))
set_option maxHeartbeats 4000000 in
theorem sg1 {Q' : Exit → St → Prop} {G : GH} {b : Nat} {Xa Ya Za Xb Yb Zb za zb : Fp} (hf : FW G b) (tail : ∀ s l, Q' .normal (S (SL.sets s [(0, pf b), (4, .int .u64 0), (5, .int .u64 0), (6, .int .u64 0), (7, .int .u64 0), (8, .int .u64 0), (9, .int .u64 0), (10, .int .u64 0)]) (AL.sets l [(4, jcells Xa Ya Za), (5, jcells Xb Yb Zb), (6, zj.toArray), (7, (fm za).cells), (8, (fm zb).cells), (9, (fm (Xa * zb)).cells), (10, (fm (Xb * za)).cells)]) G)) (s : Nat → Value) (l : Nat → Array Value) : vc Try.prog E45 pd45_1 Q' (S (SL.sets s [(0, pf b), (4, .int .u64 0), (5, .int .u64 0), (6, .int .u64 0), (7, .int .u64 0), (8, .int .u64 0)]) (AL.sets l [(4, jcells Xa Ya Za), (5, jcells Xb Yb Zb), (6, zj.toArray), (7, (fm za).cells), (8, (fm zb).cells)]) G) := by
  have F := hf.fo
  dsimp only [SL.sets, AL.sets]
  delta pd45_1
  (repeat' (first | (with_reducible refine i_ops ?_; first | (refine g_mv ?_; refine s_mv ?_) | refine o_nil ?_ | (refine g_lfield ?_; refine s_lfield ?_) | (refine g_lload ?_; first | refine s_lloadJX ?_ | refine s_lloadM ?_) | (refine g_lstore ?_; refine s_lstoreM ?_) | (refine g_lalloc ?_; refine s_lalloc ?_) | refine o_callp qrf (by exact mulM b _ _ G F) ?_) | (with_reducible refine i_vc ?_; refine v_draw0 ?_) | (with_reducible refine i_plan ?_; first | refine p_done ?_ | refine s_pre ?_ | refine p_callp qrf (by exact mulM b _ _ G F) qle ?_ p_no | refine s_alt ?_ | refine p_alt ?_ ?_) | (with_reducible (refine g_stand ?_; first | refine s_stand ?_ | refine s_standL ?_))))
  all_goals exact k_trim [(0, pf b), (4, .int .u64 0), (5, .int .u64 0), (6, .int .u64 0), (7, .int .u64 0), (8, .int .u64 0), (9, .int .u64 0), (10, .int .u64 0)] [(4, jcells Xa Ya Za), (5, jcells Xb Yb Zb), (6, zj.toArray), (7, (fm za).cells), (8, (fm zb).cells), (9, (fm (Xa * zb)).cells), (10, (fm (Xb * za)).cells)] qhs qhl tail
def pd45_3 : PC := (.draw [10, 9, 12, 11] (.take 0 ⟨none, (some 68), (.pure 68 .mv [(.tmp 0)])⟩ (.take 1 ⟨none, (some 69), (.lload 69 10 10 8 true)⟩ (.take 2 ⟨none, (some 70), (.lload 70 9 9 8 true)⟩ (.take 4 ⟨none, (some 72), (.pure 72 .mv [(.tmp 0)])⟩ (.take 5 ⟨none, (some 73), (.lload 73 12 12 8 true)⟩ (.take 6 ⟨none, (some 74), (.lload 74 11 11 8 true)⟩ (.alt 3 ⟨none, (some 71), (.call (some 71) 41 [(.tmp 68), (.tmp 69), (.tmp 70)])⟩ (.alt 7 ⟨none, (some 75), (.call (some 75) 41 [(.tmp 72), (.tmp 73), (.tmp 74)])⟩ (.alt 8 ⟨none, (some 13), (.lalloc 13 13 #[(.int .u64 0), (.int .u64 0), (.int .u64 0), (.int .u64 0), (.int .u64 0), (.int .u64 0), (.int .u64 0), (.int .u64 0)])⟩ (.alt 9 ⟨none, (some 14), (.lalloc 14 14 #[(.int .u64 0), (.int .u64 0), (.int .u64 0), (.int .u64 0), (.int .u64 0), (.int .u64 0), (.int .u64 0), (.int .u64 0)])⟩ (.alt 10 ⟨none, none, (.lstore 13 13 8 (.tmp 71))⟩ (.alt 11 ⟨none, none, (.lstore 14 14 8 (.tmp 75))⟩ .done .no) .no) .no) (.alt 9 ⟨none, (some 14), (.lalloc 14 14 #[(.int .u64 0), (.int .u64 0), (.int .u64 0), (.int .u64 0), (.int .u64 0), (.int .u64 0), (.int .u64 0), (.int .u64 0)])⟩ (.alt 8 ⟨none, (some 13), (.lalloc 13 13 #[(.int .u64 0), (.int .u64 0), (.int .u64 0), (.int .u64 0), (.int .u64 0), (.int .u64 0), (.int .u64 0), (.int .u64 0)])⟩ (.alt 10 ⟨none, none, (.lstore 13 13 8 (.tmp 71))⟩ (.alt 11 ⟨none, none, (.lstore 14 14 8 (.tmp 75))⟩ .done .no) .no) .no) .no)) (.alt 8 ⟨none, (some 13), (.lalloc 13 13 #[(.int .u64 0), (.int .u64 0), (.int .u64 0), (.int .u64 0), (.int .u64 0), (.int .u64 0), (.int .u64 0), (.int .u64 0)])⟩ (.alt 7 ⟨none, (some 75), (.call (some 75) 41 [(.tmp 72), (.tmp 73), (.tmp 74)])⟩ (.alt 9 ⟨none, (some 14), (.lalloc 14 14 #[(.int .u64 0), (.int .u64 0), (.int .u64 0), (.int .u64 0), (.int .u64 0), (.int .u64 0), (.int .u64 0), (.int .u64 0)])⟩ (.alt 10 ⟨none, none, (.lstore 13 13 8 (.tmp 71))⟩ (.alt 11 ⟨none, none, (.lstore 14 14 8 (.tmp 75))⟩ .done .no) .no) .no) (.alt 9 ⟨none, (some 14), (.lalloc 14 14 #[(.int .u64 0), (.int .u64 0), (.int .u64 0), (.int .u64 0), (.int .u64 0), (.int .u64 0), (.int .u64 0), (.int .u64 0)])⟩ (.alt 7 ⟨none, (some 75), (.call (some 75) 41 [(.tmp 72), (.tmp 73), (.tmp 74)])⟩ (.alt 10 ⟨none, none, (.lstore 13 13 8 (.tmp 71))⟩ (.alt 11 ⟨none, none, (.lstore 14 14 8 (.tmp 75))⟩ .done .no) .no) .no) .no)) (.alt 9 ⟨none, (some 14), (.lalloc 14 14 #[(.int .u64 0), (.int .u64 0), (.int .u64 0), (.int .u64 0), (.int .u64 0), (.int .u64 0), (.int .u64 0), (.int .u64 0)])⟩ (.alt 7 ⟨none, (some 75), (.call (some 75) 41 [(.tmp 72), (.tmp 73), (.tmp 74)])⟩ (.alt 8 ⟨none, (some 13), (.lalloc 13 13 #[(.int .u64 0), (.int .u64 0), (.int .u64 0), (.int .u64 0), (.int .u64 0), (.int .u64 0), (.int .u64 0), (.int .u64 0)])⟩ (.alt 10 ⟨none, none, (.lstore 13 13 8 (.tmp 71))⟩ (.alt 11 ⟨none, none, (.lstore 14 14 8 (.tmp 75))⟩ .done .no) .no) .no) (.alt 8 ⟨none, (some 13), (.lalloc 13 13 #[(.int .u64 0), (.int .u64 0), (.int .u64 0), (.int .u64 0), (.int .u64 0), (.int .u64 0), (.int .u64 0), (.int .u64 0)])⟩ (.alt 7 ⟨none, (some 75), (.call (some 75) 41 [(.tmp 72), (.tmp 73), (.tmp 74)])⟩ (.alt 10 ⟨none, none, (.lstore 13 13 8 (.tmp 71))⟩ (.alt 11 ⟨none, none, (.lstore 14 14 8 (.tmp 75))⟩ .done .no) .no) .no) .no)) .no))) (.alt 8 ⟨none, (some 13), (.lalloc 13 13 #[(.int .u64 0), (.int .u64 0), (.int .u64 0), (.int .u64 0), (.int .u64 0), (.int .u64 0), (.int .u64 0), (.int .u64 0)])⟩ (.alt 3 ⟨none, (some 71), (.call (some 71) 41 [(.tmp 68), (.tmp 69), (.tmp 70)])⟩ (.alt 7 ⟨none, (some 75), (.call (some 75) 41 [(.tmp 72), (.tmp 73), (.tmp 74)])⟩ (.alt 9 ⟨none, (some 14), (.lalloc 14 14 #[(.int .u64 0), (.int .u64 0), (.int .u64 0), (.int .u64 0), (.int .u64 0), (.int .u64 0), (.int .u64 0), (.int .u64 0)])⟩ (.alt 10 ⟨none, none, (.lstore 13 13 8 (.tmp 71))⟩ (.alt 11 ⟨none, none, (.lstore 14 14 8 (.tmp 75))⟩ .done .no) .no) .no) (.alt 9 ⟨none, (some 14), (.lalloc 14 14 #[(.int .u64 0), (.int .u64 0), (.int .u64 0), (.int .u64 0), (.int .u64 0), (.int .u64 0), (.int .u64 0), (.int .u64 0)])⟩ (.alt 7 ⟨none, (some 75), (.call (some 75) 41 [(.tmp 72), (.tmp 73), (.tmp 74)])⟩ (.alt 10 ⟨none, none, (.lstore 13 13 8 (.tmp 71))⟩ (.alt 11 ⟨none, none, (.lstore 14 14 8 (.tmp 75))⟩ .done .no) .no) .no) .no)) (.alt 9 ⟨none, (some 14), (.lalloc 14 14 #[(.int .u64 0), (.int .u64 0), (.int .u64 0), (.int .u64 0), (.int .u64 0), (.int .u64 0), (.int .u64 0), (.int .u64 0)])⟩ (.alt 3 ⟨none, (some 71), (.call (some 71) 41 [(.tmp 68), (.tmp 69), (.tmp 70)])⟩ (.alt 7 ⟨none, (some 75), (.call (some 75) 41 [(.tmp 72), (.tmp 73), (.tmp 74)])⟩ (.alt 10 ⟨none, none, (.lstore 13 13 8 (.tmp 71))⟩ (.alt 11 ⟨none, none, (.lstore 14 14 8 (.tmp 75))⟩ .done .no) .no) .no) .no) .no)) (.alt 9 ⟨none, (some 14), (.lalloc 14 14 #[(.int .u64 0), (.int .u64 0), (.int .u64 0), (.int .u64 0), (.int .u64 0), (.int .u64 0), (.int .u64 0), (.int .u64 0)])⟩ (.alt 3 ⟨none, (some 71), (.call (some 71) 41 [(.tmp 68), (.tmp 69), (.tmp 70)])⟩ (.alt 7 ⟨none, (some 75), (.call (some 75) 41 [(.tmp 72), (.tmp 73), (.tmp 74)])⟩ (.alt 8 ⟨none, (some 13), (.lalloc 13 13 #[(.int .u64 0), (.int .u64 0), (.int .u64 0), (.int .u64 0), (.int .u64 0), (.int .u64 0), (.int .u64 0), (.int .u64 0)])⟩ (.alt 10 ⟨none, none, (.lstore 13 13 8 (.tmp 71))⟩ (.alt 11 ⟨none, none, (.lstore 14 14 8 (.tmp 75))⟩ .done .no) .no) .no) (.alt 8 ⟨none, (some 13), (.lalloc 13 13 #[(.int .u64 0), (.int .u64 0), (.int .u64 0), (.int .u64 0), (.int .u64 0), (.int .u64 0), (.int .u64 0), (.int .u64 0)])⟩ (.alt 7 ⟨none, (some 75), (.call (some 75) 41 [(.tmp 72), (.tmp 73), (.tmp 74)])⟩ (.alt 10 ⟨none, none, (.lstore 13 13 8 (.tmp 71))⟩ (.alt 11 ⟨none, none, (.lstore 14 14 8 (.tmp 75))⟩ .done .no) .no) .no) .no)) (.alt 8 ⟨none, (some 13), (.lalloc 13 13 #[(.int .u64 0), (.int .u64 0), (.int .u64 0), (.int .u64 0), (.int .u64 0), (.int .u64 0), (.int .u64 0), (.int .u64 0)])⟩ (.alt 3 ⟨none, (some 71), (.call (some 71) 41 [(.tmp 68), (.tmp 69), (.tmp 70)])⟩ (.alt 7 ⟨none, (some 75), (.call (some 75) 41 [(.tmp 72), (.tmp 73), (.tmp 74)])⟩ (.alt 10 ⟨none, none, (.lstore 13 13 8 (.tmp 71))⟩ (.alt 11 ⟨none, none, (.lstore 14 14 8 (.tmp 75))⟩ .done .no) .no) .no) .no) .no)) .no))))))))))
set_option maxHeartbeats 4000000 in
theorem sg3 {Q' : Exit → St → Prop} {G : GH} {b : Nat} {Xa Ya Za Xb Yb Zb za zb xa xb ya yb : Fp} (hf : FW G b) (tail : ∀ s l, Q' .normal (S (SL.sets s [(0, pf b), (4, .int .u64 0), (5, .int .u64 0), (6, .int .u64 0), (7, .int .u64 0), (8, .int .u64 0), (9, .int .u64 0), (10, .int .u64 0), (11, .int .u64 0), (12, .int .u64 0), (13, .int .u64 0), (14, .int .u64 0)]) (AL.sets l [(4, jcells Xa Ya Za), (5, jcells Xb Yb Zb), (6, zj.toArray), (7, (fm za).cells), (8, (fm zb).cells), (9, (fm xa).cells), (10, (fm xb).cells), (11, (fm ya).cells), (12, (fm yb).cells), (13, (fm (xb - xa)).cells), (14, (fm (yb - ya)).cells)]) G)) (s : Nat → Value) (l : Nat → Array Value) : vc Try.prog E45 pd45_3 Q' (S (SL.sets s [(0, pf b), (4, .int .u64 0), (5, .int .u64 0), (6, .int .u64 0), (7, .int .u64 0), (8, .int .u64 0), (9, .int .u64 0), (10, .int .u64 0), (11, .int .u64 0), (12, .int .u64 0)]) (AL.sets l [(4, jcells Xa Ya Za), (5, jcells Xb Yb Zb), (6, zj.toArray), (7, (fm za).cells), (8, (fm zb).cells), (9, (fm xa).cells), (10, (fm xb).cells), (11, (fm ya).cells), (12, (fm yb).cells)]) G) := by
  have F := hf.fo
  dsimp only [SL.sets, AL.sets]
  delta pd45_3
  (repeat' (first | (with_reducible refine i_ops ?_; first | (refine g_mv ?_; refine s_mv ?_) | refine o_nil ?_ | (refine g_lload ?_; refine s_lloadM ?_) | (refine g_lstore ?_; refine s_lstoreM ?_) | (refine g_lalloc ?_; refine s_lalloc ?_) | refine o_callp qrf (by exact subM b _ _ G F) ?_) | (with_reducible refine i_vc ?_; refine v_draw0 ?_) | (with_reducible refine i_plan ?_; first | refine p_done ?_ | refine s_pre ?_ | refine p_callp qrf (by exact subM b _ _ G F) qle ?_ p_no | refine s_alt ?_ | refine p_alt ?_ ?_) | (with_reducible (refine g_stand ?_; first | refine s_stand ?_ | refine s_standL ?_))))
  all_goals exact k_trim [(0, pf b), (4, .int .u64 0), (5, .int .u64 0), (6, .int .u64 0), (7, .int .u64 0), (8, .int .u64 0), (9, .int .u64 0), (10, .int .u64 0), (11, .int .u64 0), (12, .int .u64 0), (13, .int .u64 0), (14, .int .u64 0)] [(4, jcells Xa Ya Za), (5, jcells Xb Yb Zb), (6, zj.toArray), (7, (fm za).cells), (8, (fm zb).cells), (9, (fm xa).cells), (10, (fm xb).cells), (11, (fm ya).cells), (12, (fm yb).cells), (13, (fm (xb - xa)).cells), (14, (fm (yb - ya)).cells)] qhs qhl tail
end Go.Proofs.Ytdeihgcgglhhcaa.V
end
section
/- The document's sum (LG) of places. -/
set_option linter.unusedSimpArgs false
set_option linter.unusedVariables false
set_option maxRecDepth 20000
-- @extra s_nilck s_fptr0
-- @pre g_lload s_lloadJ s_lloadJX s_lloadJY s_lloadJZ s_lloadM
-- @pre g_lstore s_lstoreJ s_lstoreM
-- @pre g_lbox s_lboxJ s_lboxM
-- @pre g_build s_bm0 s_bj3
namespace Go.Proofs.Ytdeihgcgglhhcaa.V
open Go.RowKit Go.ChangeShapes Go.WideShapes
def pd45_2 : PC := (.draw [4, 8, 5, 7] (.take 0 ⟨none, (some 50), (.pure 50 .mv [(.tmp 0)])⟩ (.take 1 ⟨none, (some 51), (.lfield 51 4 8)⟩ (.take 2 ⟨none, (some 52), (.lload 52 4 51 8 true)⟩ (.take 3 ⟨none, (some 53), (.pure 53 .mv [(.tmp 0)])⟩ (.take 4 ⟨none, (some 54), (.lload 54 8 8 8 true)⟩ (.take 5 ⟨none, (some 55), (.lfield 55 5 16)⟩ (.take 6 ⟨none, (some 56), (.lload 56 5 55 8 true)⟩ (.take 9 ⟨none, (some 59), (.pure 59 .mv [(.tmp 0)])⟩ (.take 10 ⟨none, (some 60), (.lfield 60 5 8)⟩ (.take 11 ⟨none, (some 61), (.lload 61 5 60 8 true)⟩ (.take 12 ⟨none, (some 62), (.pure 62 .mv [(.tmp 0)])⟩ (.take 13 ⟨none, (some 63), (.lload 63 7 7 8 true)⟩ (.take 14 ⟨none, (some 64), (.lfield 64 4 16)⟩ (.take 15 ⟨none, (some 65), (.lload 65 4 64 8 true)⟩ (.alt 7 ⟨none, (some 57), (.call (some 57) 40 [(.tmp 53), (.tmp 54), (.tmp 56)])⟩ (.alt 8 ⟨none, (some 58), (.call (some 58) 40 [(.tmp 50), (.tmp 52), (.tmp 57)])⟩ (.alt 16 ⟨none, (some 66), (.call (some 66) 40 [(.tmp 62), (.tmp 63), (.tmp 65)])⟩ (.alt 17 ⟨none, (some 67), (.call (some 67) 40 [(.tmp 59), (.tmp 61), (.tmp 66)])⟩ (.alt 18 ⟨none, (some 11), (.lalloc 11 11 #[(.int .u64 0), (.int .u64 0), (.int .u64 0), (.int .u64 0), (.int .u64 0), (.int .u64 0), (.int .u64 0), (.int .u64 0)])⟩ (.alt 19 ⟨none, (some 12), (.lalloc 12 12 #[(.int .u64 0), (.int .u64 0), (.int .u64 0), (.int .u64 0), (.int .u64 0), (.int .u64 0), (.int .u64 0), (.int .u64 0)])⟩ (.alt 20 ⟨none, none, (.lstore 11 11 8 (.tmp 58))⟩ (.alt 21 ⟨none, none, (.lstore 12 12 8 (.tmp 67))⟩ .done .no) .no) .no) (.alt 19 ⟨none, (some 12), (.lalloc 12 12 #[(.int .u64 0), (.int .u64 0), (.int .u64 0), (.int .u64 0), (.int .u64 0), (.int .u64 0), (.int .u64 0), (.int .u64 0)])⟩ (.alt 18 ⟨none, (some 11), (.lalloc 11 11 #[(.int .u64 0), (.int .u64 0), (.int .u64 0), (.int .u64 0), (.int .u64 0), (.int .u64 0), (.int .u64 0), (.int .u64 0)])⟩ (.alt 20 ⟨none, none, (.lstore 11 11 8 (.tmp 58))⟩ (.alt 21 ⟨none, none, (.lstore 12 12 8 (.tmp 67))⟩ .done .no) .no) .no) .no)) (.alt 18 ⟨none, (some 11), (.lalloc 11 11 #[(.int .u64 0), (.int .u64 0), (.int .u64 0), (.int .u64 0), (.int .u64 0), (.int .u64 0), (.int .u64 0), (.int .u64 0)])⟩ (.alt 17 ⟨none, (some 67), (.call (some 67) 40 [(.tmp 59), (.tmp 61), (.tmp 66)])⟩ (.alt 19 ⟨none, (some 12), (.lalloc 12 12 #[(.int .u64 0), (.int .u64 0), (.int .u64 0), (.int .u64 0), (.int .u64 0), (.int .u64 0), (.int .u64 0), (.int .u64 0)])⟩ (.alt 20 ⟨none, none, (.lstore 11 11 8 (.tmp 58))⟩ (.alt 21 ⟨none, none, (.lstore 12 12 8 (.tmp 67))⟩ .done .no) .no) .no) (.alt 19 ⟨none, (some 12), (.lalloc 12 12 #[(.int .u64 0), (.int .u64 0), (.int .u64 0), (.int .u64 0), (.int .u64 0), (.int .u64 0), (.int .u64 0), (.int .u64 0)])⟩ (.alt 17 ⟨none, (some 67), (.call (some 67) 40 [(.tmp 59), (.tmp 61), (.tmp 66)])⟩ (.alt 20 ⟨none, none, (.lstore 11 11 8 (.tmp 58))⟩ (.alt 21 ⟨none, none, (.lstore 12 12 8 (.tmp 67))⟩ .done .no) .no) .no) .no)) (.alt 19 ⟨none, (some 12), (.lalloc 12 12 #[(.int .u64 0), (.int .u64 0), (.int .u64 0), (.int .u64 0), (.int .u64 0), (.int .u64 0), (.int .u64 0), (.int .u64 0)])⟩ (.alt 17 ⟨none, (some 67), (.call (some 67) 40 [(.tmp 59), (.tmp 61), (.tmp 66)])⟩ (.alt 18 ⟨none, (some 11), (.lalloc 11 11 #[(.int .u64 0), (.int .u64 0), (.int .u64 0), (.int .u64 0), (.int .u64 0), (.int .u64 0), (.int .u64 0), (.int .u64 0)])⟩ (.alt 20 ⟨none, none, (.lstore 11 11 8 (.tmp 58))⟩ (.alt 21 ⟨none, none, (.lstore 12 12 8 (.tmp 67))⟩ .done .no) .no) .no) (.alt 18 ⟨none, (some 11), (.lalloc 11 11 #[(.int .u64 0), (.int .u64 0), (.int .u64 0), (.int .u64 0), (.int .u64 0), (.int .u64 0), (.int .u64 0), (.int .u64 0)])⟩ (.alt 17 ⟨none, (some 67), (.call (some 67) 40 [(.tmp 59), (.tmp 61), (.tmp 66)])⟩ (.alt 20 ⟨none, none, (.lstore 11 11 8 (.tmp 58))⟩ (.alt 21 ⟨none, none, (.lstore 12 12 8 (.tmp 67))⟩ .done .no) .no) .no) .no)) .no))) (.alt 18 ⟨none, (some 11), (.lalloc 11 11 #[(.int .u64 0), (.int .u64 0), (.int .u64 0), (.int .u64 0), (.int .u64 0), (.int .u64 0), (.int .u64 0), (.int .u64 0)])⟩ (.alt 16 ⟨none, (some 66), (.call (some 66) 40 [(.tmp 62), (.tmp 63), (.tmp 65)])⟩ (.alt 17 ⟨none, (some 67), (.call (some 67) 40 [(.tmp 59), (.tmp 61), (.tmp 66)])⟩ (.alt 19 ⟨none, (some 12), (.lalloc 12 12 #[(.int .u64 0), (.int .u64 0), (.int .u64 0), (.int .u64 0), (.int .u64 0), (.int .u64 0), (.int .u64 0), (.int .u64 0)])⟩ (.alt 20 ⟨none, none, (.lstore 11 11 8 (.tmp 58))⟩ (.alt 21 ⟨none, none, (.lstore 12 12 8 (.tmp 67))⟩ .done .no) .no) .no) (.alt 19 ⟨none, (some 12), (.lalloc 12 12 #[(.int .u64 0), (.int .u64 0), (.int .u64 0), (.int .u64 0), (.int .u64 0), (.int .u64 0), (.int .u64 0), (.int .u64 0)])⟩ (.alt 17 ⟨none, (some 67), (.call (some 67) 40 [(.tmp 59), (.tmp 61), (.tmp 66)])⟩ (.alt 20 ⟨none, none, (.lstore 11 11 8 (.tmp 58))⟩ (.alt 21 ⟨none, none, (.lstore 12 12 8 (.tmp 67))⟩ .done .no) .no) .no) .no)) (.alt 19 ⟨none, (some 12), (.lalloc 12 12 #[(.int .u64 0), (.int .u64 0), (.int .u64 0), (.int .u64 0), (.int .u64 0), (.int .u64 0), (.int .u64 0), (.int .u64 0)])⟩ (.alt 16 ⟨none, (some 66), (.call (some 66) 40 [(.tmp 62), (.tmp 63), (.tmp 65)])⟩ (.alt 17 ⟨none, (some 67), (.call (some 67) 40 [(.tmp 59), (.tmp 61), (.tmp 66)])⟩ (.alt 20 ⟨none, none, (.lstore 11 11 8 (.tmp 58))⟩ (.alt 21 ⟨none, none, (.lstore 12 12 8 (.tmp 67))⟩ .done .no) .no) .no) .no) .no)) (.alt 19 ⟨none, (some 12), (.lalloc 12 12 #[(.int .u64 0), (.int .u64 0), (.int .u64 0), (.int .u64 0), (.int .u64 0), (.int .u64 0), (.int .u64 0), (.int .u64 0)])⟩ (.alt 16 ⟨none, (some 66), (.call (some 66) 40 [(.tmp 62), (.tmp 63), (.tmp 65)])⟩ (.alt 17 ⟨none, (some 67), (.call (some 67) 40 [(.tmp 59), (.tmp 61), (.tmp 66)])⟩ (.alt 18 ⟨none, (some 11), (.lalloc 11 11 #[(.int .u64 0), (.int .u64 0), (.int .u64 0), (.int .u64 0), (.int .u64 0), (.int .u64 0), (.int .u64 0), (.int .u64 0)])⟩ (.alt 20 ⟨none, none, (.lstore 11 11 8 (.tmp 58))⟩ (.alt 21 ⟨none, none, (.lstore 12 12 8 (.tmp 67))⟩ .done .no) .no) .no) (.alt 18 ⟨none, (some 11), (.lalloc 11 11 #[(.int .u64 0), (.int .u64 0), (.int .u64 0), (.int .u64 0), (.int .u64 0), (.int .u64 0), (.int .u64 0), (.int .u64 0)])⟩ (.alt 17 ⟨none, (some 67), (.call (some 67) 40 [(.tmp 59), (.tmp 61), (.tmp 66)])⟩ (.alt 20 ⟨none, none, (.lstore 11 11 8 (.tmp 58))⟩ (.alt 21 ⟨none, none, (.lstore 12 12 8 (.tmp 67))⟩ .done .no) .no) .no) .no)) (.alt 18 ⟨none, (some 11), (.lalloc 11 11 #[(.int .u64 0), (.int .u64 0), (.int .u64 0), (.int .u64 0), (.int .u64 0), (.int .u64 0), (.int .u64 0), (.int .u64 0)])⟩ (.alt 16 ⟨none, (some 66), (.call (some 66) 40 [(.tmp 62), (.tmp 63), (.tmp 65)])⟩ (.alt 17 ⟨none, (some 67), (.call (some 67) 40 [(.tmp 59), (.tmp 61), (.tmp 66)])⟩ (.alt 20 ⟨none, none, (.lstore 11 11 8 (.tmp 58))⟩ (.alt 21 ⟨none, none, (.lstore 12 12 8 (.tmp 67))⟩ .done .no) .no) .no) .no) .no)) .no))) (.alt 18 ⟨none, (some 11), (.lalloc 11 11 #[(.int .u64 0), (.int .u64 0), (.int .u64 0), (.int .u64 0), (.int .u64 0), (.int .u64 0), (.int .u64 0), (.int .u64 0)])⟩ (.alt 8 ⟨none, (some 58), (.call (some 58) 40 [(.tmp 50), (.tmp 52), (.tmp 57)])⟩ (.alt 16 ⟨none, (some 66), (.call (some 66) 40 [(.tmp 62), (.tmp 63), (.tmp 65)])⟩ (.alt 17 ⟨none, (some 67), (.call (some 67) 40 [(.tmp 59), (.tmp 61), (.tmp 66)])⟩ (.alt 19 ⟨none, (some 12), (.lalloc 12 12 #[(.int .u64 0), (.int .u64 0), (.int .u64 0), (.int .u64 0), (.int .u64 0), (.int .u64 0), (.int .u64 0), (.int .u64 0)])⟩ (.alt 20 ⟨none, none, (.lstore 11 11 8 (.tmp 58))⟩ (.alt 21 ⟨none, none, (.lstore 12 12 8 (.tmp 67))⟩ .done .no) .no) .no) (.alt 19 ⟨none, (some 12), (.lalloc 12 12 #[(.int .u64 0), (.int .u64 0), (.int .u64 0), (.int .u64 0), (.int .u64 0), (.int .u64 0), (.int .u64 0), (.int .u64 0)])⟩ (.alt 17 ⟨none, (some 67), (.call (some 67) 40 [(.tmp 59), (.tmp 61), (.tmp 66)])⟩ (.alt 20 ⟨none, none, (.lstore 11 11 8 (.tmp 58))⟩ (.alt 21 ⟨none, none, (.lstore 12 12 8 (.tmp 67))⟩ .done .no) .no) .no) .no)) (.alt 19 ⟨none, (some 12), (.lalloc 12 12 #[(.int .u64 0), (.int .u64 0), (.int .u64 0), (.int .u64 0), (.int .u64 0), (.int .u64 0), (.int .u64 0), (.int .u64 0)])⟩ (.alt 16 ⟨none, (some 66), (.call (some 66) 40 [(.tmp 62), (.tmp 63), (.tmp 65)])⟩ (.alt 17 ⟨none, (some 67), (.call (some 67) 40 [(.tmp 59), (.tmp 61), (.tmp 66)])⟩ (.alt 20 ⟨none, none, (.lstore 11 11 8 (.tmp 58))⟩ (.alt 21 ⟨none, none, (.lstore 12 12 8 (.tmp 67))⟩ .done .no) .no) .no) .no) .no)) (.alt 19 ⟨none, (some 12), (.lalloc 12 12 #[(.int .u64 0), (.int .u64 0), (.int .u64 0), (.int .u64 0), (.int .u64 0), (.int .u64 0), (.int .u64 0), (.int .u64 0)])⟩ (.alt 8 ⟨none, (some 58), (.call (some 58) 40 [(.tmp 50), (.tmp 52), (.tmp 57)])⟩ (.alt 16 ⟨none, (some 66), (.call (some 66) 40 [(.tmp 62), (.tmp 63), (.tmp 65)])⟩ (.alt 17 ⟨none, (some 67), (.call (some 67) 40 [(.tmp 59), (.tmp 61), (.tmp 66)])⟩ (.alt 20 ⟨none, none, (.lstore 11 11 8 (.tmp 58))⟩ (.alt 21 ⟨none, none, (.lstore 12 12 8 (.tmp 67))⟩ .done .no) .no) .no) .no) .no) .no)) (.alt 19 ⟨none, (some 12), (.lalloc 12 12 #[(.int .u64 0), (.int .u64 0), (.int .u64 0), (.int .u64 0), (.int .u64 0), (.int .u64 0), (.int .u64 0), (.int .u64 0)])⟩ (.alt 8 ⟨none, (some 58), (.call (some 58) 40 [(.tmp 50), (.tmp 52), (.tmp 57)])⟩ (.alt 16 ⟨none, (some 66), (.call (some 66) 40 [(.tmp 62), (.tmp 63), (.tmp 65)])⟩ (.alt 17 ⟨none, (some 67), (.call (some 67) 40 [(.tmp 59), (.tmp 61), (.tmp 66)])⟩ (.alt 18 ⟨none, (some 11), (.lalloc 11 11 #[(.int .u64 0), (.int .u64 0), (.int .u64 0), (.int .u64 0), (.int .u64 0), (.int .u64 0), (.int .u64 0), (.int .u64 0)])⟩ (.alt 20 ⟨none, none, (.lstore 11 11 8 (.tmp 58))⟩ (.alt 21 ⟨none, none, (.lstore 12 12 8 (.tmp 67))⟩ .done .no) .no) .no) (.alt 18 ⟨none, (some 11), (.lalloc 11 11 #[(.int .u64 0), (.int .u64 0), (.int .u64 0), (.int .u64 0), (.int .u64 0), (.int .u64 0), (.int .u64 0), (.int .u64 0)])⟩ (.alt 17 ⟨none, (some 67), (.call (some 67) 40 [(.tmp 59), (.tmp 61), (.tmp 66)])⟩ (.alt 20 ⟨none, none, (.lstore 11 11 8 (.tmp 58))⟩ (.alt 21 ⟨none, none, (.lstore 12 12 8 (.tmp 67))⟩ .done .no) .no) .no) .no)) (.alt 18 ⟨none, (some 11), (.lalloc 11 11 #[(.int .u64 0), (.int .u64 0), (.int .u64 0), (.int .u64 0), (.int .u64 0), (.int .u64 0), (.int .u64 0), (.int .u64 0)])⟩ (.alt 16 ⟨none, (some 66), (.call (some 66) 40 [(.tmp 62), (.tmp 63), (.tmp 65)])⟩ (.alt 17 ⟨none, (some 67), (.call (some 67) 40 [(.tmp 59), (.tmp 61), (.tmp 66)])⟩ (.alt 20 ⟨none, none, (.lstore 11 11 8 (.tmp 58))⟩ (.alt 21 ⟨none, none, (.lstore 12 12 8 (.tmp 67))⟩ .done .no) .no) .no) .no) .no)) (.alt 18 ⟨none, (some 11), (.lalloc 11 11 #[(.int .u64 0), (.int .u64 0), (.int .u64 0), (.int .u64 0), (.int .u64 0), (.int .u64 0), (.int .u64 0), (.int .u64 0)])⟩ (.alt 8 ⟨none, (some 58), (.call (some 58) 40 [(.tmp 50), (.tmp 52), (.tmp 57)])⟩ (.alt 16 ⟨none, (some 66), (.call (some 66) 40 [(.tmp 62), (.tmp 63), (.tmp 65)])⟩ (.alt 17 ⟨none, (some 67), (.call (some 67) 40 [(.tmp 59), (.tmp 61), (.tmp 66)])⟩ (.alt 20 ⟨none, none, (.lstore 11 11 8 (.tmp 58))⟩ (.alt 21 ⟨none, none, (.lstore 12 12 8 (.tmp 67))⟩ .done .no) .no) .no) .no) .no) .no)) .no))) (.alt 18 ⟨none, (some 11), (.lalloc 11 11 #[(.int .u64 0), (.int .u64 0), (.int .u64 0), (.int .u64 0), (.int .u64 0), (.int .u64 0), (.int .u64 0), (.int .u64 0)])⟩ (.alt 7 ⟨none, (some 57), (.call (some 57) 40 [(.tmp 53), (.tmp 54), (.tmp 56)])⟩ (.alt 8 ⟨none, (some 58), (.call (some 58) 40 [(.tmp 50), (.tmp 52), (.tmp 57)])⟩ (.alt 16 ⟨none, (some 66), (.call (some 66) 40 [(.tmp 62), (.tmp 63), (.tmp 65)])⟩ (.alt 17 ⟨none, (some 67), (.call (some 67) 40 [(.tmp 59), (.tmp 61), (.tmp 66)])⟩ (.alt 19 ⟨none, (some 12), (.lalloc 12 12 #[(.int .u64 0), (.int .u64 0), (.int .u64 0), (.int .u64 0), (.int .u64 0), (.int .u64 0), (.int .u64 0), (.int .u64 0)])⟩ (.alt 20 ⟨none, none, (.lstore 11 11 8 (.tmp 58))⟩ (.alt 21 ⟨none, none, (.lstore 12 12 8 (.tmp 67))⟩ .done .no) .no) .no) (.alt 19 ⟨none, (some 12), (.lalloc 12 12 #[(.int .u64 0), (.int .u64 0), (.int .u64 0), (.int .u64 0), (.int .u64 0), (.int .u64 0), (.int .u64 0), (.int .u64 0)])⟩ (.alt 17 ⟨none, (some 67), (.call (some 67) 40 [(.tmp 59), (.tmp 61), (.tmp 66)])⟩ (.alt 20 ⟨none, none, (.lstore 11 11 8 (.tmp 58))⟩ (.alt 21 ⟨none, none, (.lstore 12 12 8 (.tmp 67))⟩ .done .no) .no) .no) .no)) (.alt 19 ⟨none, (some 12), (.lalloc 12 12 #[(.int .u64 0), (.int .u64 0), (.int .u64 0), (.int .u64 0), (.int .u64 0), (.int .u64 0), (.int .u64 0), (.int .u64 0)])⟩ (.alt 16 ⟨none, (some 66), (.call (some 66) 40 [(.tmp 62), (.tmp 63), (.tmp 65)])⟩ (.alt 17 ⟨none, (some 67), (.call (some 67) 40 [(.tmp 59), (.tmp 61), (.tmp 66)])⟩ (.alt 20 ⟨none, none, (.lstore 11 11 8 (.tmp 58))⟩ (.alt 21 ⟨none, none, (.lstore 12 12 8 (.tmp 67))⟩ .done .no) .no) .no) .no) .no)) (.alt 19 ⟨none, (some 12), (.lalloc 12 12 #[(.int .u64 0), (.int .u64 0), (.int .u64 0), (.int .u64 0), (.int .u64 0), (.int .u64 0), (.int .u64 0), (.int .u64 0)])⟩ (.alt 8 ⟨none, (some 58), (.call (some 58) 40 [(.tmp 50), (.tmp 52), (.tmp 57)])⟩ (.alt 16 ⟨none, (some 66), (.call (some 66) 40 [(.tmp 62), (.tmp 63), (.tmp 65)])⟩ (.alt 17 ⟨none, (some 67), (.call (some 67) 40 [(.tmp 59), (.tmp 61), (.tmp 66)])⟩ (.alt 20 ⟨none, none, (.lstore 11 11 8 (.tmp 58))⟩ (.alt 21 ⟨none, none, (.lstore 12 12 8 (.tmp 67))⟩ .done .no) .no) .no) .no) .no) .no)) (.alt 19 ⟨none, (some 12), (.lalloc 12 12 #[(.int .u64 0), (.int .u64 0), (.int .u64 0), (.int .u64 0), (.int .u64 0), (.int .u64 0), (.int .u64 0), (.int .u64 0)])⟩ (.alt 7 ⟨none, (some 57), (.call (some 57) 40 [(.tmp 53), (.tmp 54), (.tmp 56)])⟩ (.alt 8 ⟨none, (some 58), (.call (some 58) 40 [(.tmp 50), (.tmp 52), (.tmp 57)])⟩ (.alt 16 ⟨none, (some 66), (.call (some 66) 40 [(.tmp 62), (.tmp 63), (.tmp 65)])⟩ (.alt 17 ⟨none, (some 67), (.call (some 67) 40 [(.tmp 59), (.tmp 61), (.tmp 66)])⟩ (.alt 20 ⟨none, none, (.lstore 11 11 8 (.tmp 58))⟩ (.alt 21 ⟨none, none, (.lstore 12 12 8 (.tmp 67))⟩ .done .no) .no) .no) .no) .no) .no) .no)) (.alt 19 ⟨none, (some 12), (.lalloc 12 12 #[(.int .u64 0), (.int .u64 0), (.int .u64 0), (.int .u64 0), (.int .u64 0), (.int .u64 0), (.int .u64 0), (.int .u64 0)])⟩ (.alt 7 ⟨none, (some 57), (.call (some 57) 40 [(.tmp 53), (.tmp 54), (.tmp 56)])⟩ (.alt 8 ⟨none, (some 58), (.call (some 58) 40 [(.tmp 50), (.tmp 52), (.tmp 57)])⟩ (.alt 16 ⟨none, (some 66), (.call (some 66) 40 [(.tmp 62), (.tmp 63), (.tmp 65)])⟩ (.alt 17 ⟨none, (some 67), (.call (some 67) 40 [(.tmp 59), (.tmp 61), (.tmp 66)])⟩ (.alt 18 ⟨none, (some 11), (.lalloc 11 11 #[(.int .u64 0), (.int .u64 0), (.int .u64 0), (.int .u64 0), (.int .u64 0), (.int .u64 0), (.int .u64 0), (.int .u64 0)])⟩ (.alt 20 ⟨none, none, (.lstore 11 11 8 (.tmp 58))⟩ (.alt 21 ⟨none, none, (.lstore 12 12 8 (.tmp 67))⟩ .done .no) .no) .no) (.alt 18 ⟨none, (some 11), (.lalloc 11 11 #[(.int .u64 0), (.int .u64 0), (.int .u64 0), (.int .u64 0), (.int .u64 0), (.int .u64 0), (.int .u64 0), (.int .u64 0)])⟩ (.alt 17 ⟨none, (some 67), (.call (some 67) 40 [(.tmp 59), (.tmp 61), (.tmp 66)])⟩ (.alt 20 ⟨none, none, (.lstore 11 11 8 (.tmp 58))⟩ (.alt 21 ⟨none, none, (.lstore 12 12 8 (.tmp 67))⟩ .done .no) .no) .no) .no)) (.alt 18 ⟨none, (some 11), (.lalloc 11 11 #[(.int .u64 0), (.int .u64 0), (.int .u64 0), (.int .u64 0), (.int .u64 0), (.int .u64 0), (.int .u64 0), (.int .u64 0)])⟩ (.alt 16 ⟨none, (some 66), (.call (some 66) 40 [(.tmp 62), (.tmp 63), (.tmp 65)])⟩ (.alt 17 ⟨none, (some 67), (.call (some 67) 40 [(.tmp 59), (.tmp 61), (.tmp 66)])⟩ (.alt 20 ⟨none, none, (.lstore 11 11 8 (.tmp 58))⟩ (.alt 21 ⟨none, none, (.lstore 12 12 8 (.tmp 67))⟩ .done .no) .no) .no) .no) .no)) (.alt 18 ⟨none, (some 11), (.lalloc 11 11 #[(.int .u64 0), (.int .u64 0), (.int .u64 0), (.int .u64 0), (.int .u64 0), (.int .u64 0), (.int .u64 0), (.int .u64 0)])⟩ (.alt 8 ⟨none, (some 58), (.call (some 58) 40 [(.tmp 50), (.tmp 52), (.tmp 57)])⟩ (.alt 16 ⟨none, (some 66), (.call (some 66) 40 [(.tmp 62), (.tmp 63), (.tmp 65)])⟩ (.alt 17 ⟨none, (some 67), (.call (some 67) 40 [(.tmp 59), (.tmp 61), (.tmp 66)])⟩ (.alt 20 ⟨none, none, (.lstore 11 11 8 (.tmp 58))⟩ (.alt 21 ⟨none, none, (.lstore 12 12 8 (.tmp 67))⟩ .done .no) .no) .no) .no) .no) .no)) (.alt 18 ⟨none, (some 11), (.lalloc 11 11 #[(.int .u64 0), (.int .u64 0), (.int .u64 0), (.int .u64 0), (.int .u64 0), (.int .u64 0), (.int .u64 0), (.int .u64 0)])⟩ (.alt 7 ⟨none, (some 57), (.call (some 57) 40 [(.tmp 53), (.tmp 54), (.tmp 56)])⟩ (.alt 8 ⟨none, (some 58), (.call (some 58) 40 [(.tmp 50), (.tmp 52), (.tmp 57)])⟩ (.alt 16 ⟨none, (some 66), (.call (some 66) 40 [(.tmp 62), (.tmp 63), (.tmp 65)])⟩ (.alt 17 ⟨none, (some 67), (.call (some 67) 40 [(.tmp 59), (.tmp 61), (.tmp 66)])⟩ (.alt 20 ⟨none, none, (.lstore 11 11 8 (.tmp 58))⟩ (.alt 21 ⟨none, none, (.lstore 12 12 8 (.tmp 67))⟩ .done .no) .no) .no) .no) .no) .no) .no)) .no))))))))))))))))))
set_option maxHeartbeats 4000000 in
theorem sg2 {Q' : Exit → St → Prop} {G : GH} {b : Nat} {Xa Ya Za Xb Yb Zb za zb xa xb : Fp} (hf : FW G b) (tail : ∀ s l, Q' .normal (S (SL.sets s [(0, pf b), (4, .int .u64 0), (5, .int .u64 0), (6, .int .u64 0), (7, .int .u64 0), (8, .int .u64 0), (9, .int .u64 0), (10, .int .u64 0), (11, .int .u64 0), (12, .int .u64 0)]) (AL.sets l [(4, jcells Xa Ya Za), (5, jcells Xb Yb Zb), (6, zj.toArray), (7, (fm za).cells), (8, (fm zb).cells), (9, (fm xa).cells), (10, (fm xb).cells), (11, (fm (Ya * (zb * Zb))).cells), (12, (fm (Yb * (za * Za))).cells)]) G)) (s : Nat → Value) (l : Nat → Array Value) : vc Try.prog E45 pd45_2 Q' (S (SL.sets s [(0, pf b), (4, .int .u64 0), (5, .int .u64 0), (6, .int .u64 0), (7, .int .u64 0), (8, .int .u64 0), (9, .int .u64 0), (10, .int .u64 0)]) (AL.sets l [(4, jcells Xa Ya Za), (5, jcells Xb Yb Zb), (6, zj.toArray), (7, (fm za).cells), (8, (fm zb).cells), (9, (fm xa).cells), (10, (fm xb).cells)]) G) := by
  have F := hf.fo
  dsimp only [SL.sets, AL.sets]
  delta pd45_2
  (repeat' (first | (with_reducible refine i_ops ?_; first | (refine g_mv ?_; refine s_mv ?_) | refine o_nil ?_ | (refine g_lfield ?_; refine s_lfield ?_) | (refine g_lload ?_; first | refine s_lloadJY ?_ | refine s_lloadJZ ?_ | refine s_lloadM ?_) | (refine g_lstore ?_; refine s_lstoreM ?_) | (refine g_lalloc ?_; refine s_lalloc ?_) | refine o_callp qrf (by exact mulM b _ _ G F) ?_) | (with_reducible refine i_vc ?_; refine v_draw0 ?_) | (with_reducible refine i_plan ?_; first | refine p_done ?_ | refine s_pre ?_ | refine p_callp qrf (by exact mulM b _ _ G F) qle ?_ p_no | refine s_alt ?_ | refine p_alt ?_ ?_) | (with_reducible (refine g_stand ?_; first | refine s_stand ?_ | refine s_standL ?_))))
  all_goals exact k_trim [(0, pf b), (4, .int .u64 0), (5, .int .u64 0), (6, .int .u64 0), (7, .int .u64 0), (8, .int .u64 0), (9, .int .u64 0), (10, .int .u64 0), (11, .int .u64 0), (12, .int .u64 0)] [(4, jcells Xa Ya Za), (5, jcells Xb Yb Zb), (6, zj.toArray), (7, (fm za).cells), (8, (fm zb).cells), (9, (fm xa).cells), (10, (fm xb).cells), (11, (fm (Ya * (zb * Zb))).cells), (12, (fm (Yb * (za * Za))).cells)] qhs qhl tail
end Go.Proofs.Ytdeihgcgglhhcaa.V
end
