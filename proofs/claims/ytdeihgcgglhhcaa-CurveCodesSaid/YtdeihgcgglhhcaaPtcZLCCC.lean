/- The sum of two places. -/
import Derived.Test.YtdeihgcgglhhcaaPtcZKZLB
import Derived.Test.YtdeihgcgglhhcaaPtcZKNVO
import Derived.KernelRfl
import Derived.Test.YtdeihgcgglhhcaaPtcCA
import Derived.Test.YtdeihgcgglhhcaaPtcZVHVK
section
set_option linter.unusedSimpArgs false
set_option linter.unusedVariables false
set_option maxRecDepth 20000
-- @pre g_lload s_lloadL s_lloadLX s_lloadLY s_lloadLZ s_lloadF
-- @pre g_lstore s_lstoreL s_lstoreF
-- @pre g_lbox s_lboxL s_lboxF
-- @pre g_build s_bl3
-- @step (refine g_callv ?_; first | (refine s_cvT ?_; intro G' hle) | refine s_cvP ?_ | refine s_cvM ?_)
namespace Go.Proofs.Ytdeihgcgglhhcaa.V
open Go.RowKit Go.ChangeShapes Go.WideShapes
set_option maxHeartbeats 2000000 in
theorem placePlusF (X1 Y1 Z1 X2 Y2 Z2 : Fp) (G : GH) : HC Try.prog 35 #[plc X1 Y1 Z1, plc X2 Y2 Z2] G fun v G' => v = plc (plX X1 Y1 Z1 X2 Y2 Z2) (plY X1 Y1 Z1 X2 Y2 Z2) (plZ X1 Y1 Z1 X2 Y2 Z2) ∧ G.le G' := by
  refine HC.start comp35 rfl ?_; unfold pc35
  refine v_seq ?_
  generalize hQ : thenQ _ _ = Q'
  (repeat' (first | (with_reducible refine i_ops ?_; first | refine o_nil ?_ | (refine g_lalloc ?_; refine s_lalloc ?_) | (refine g_lbox ?_; refine s_lboxL ?_)) | (with_reducible refine i_vc ?_; refine v_ops ?_)))
  subst hQ
  refine n_then ?_
  refine v_seq ?_
  generalize hQ : thenQ _ _ = Q'
  (repeat' (first | (with_reducible refine i_ops ?_; first | (refine g_mv ?_; refine s_mv ?_) | refine o_nil ?_ | (refine g_lstore ?_; refine s_lstoreF ?_) | (refine g_lalloc ?_; refine s_lalloc ?_) | (refine o_callg qrf (by exact coefficientF _) ?_; intro G' hle)) | (with_reducible refine i_vc ?_; refine v_ops ?_)))
  subst hQ
  refine n_then ?_
  refine v_seq ?_
  refine v_trim [(2, .int .u64 0), (3, .int .u64 0), (4, .int .u64 0), (5, Value.func (.func 51) #[] #[]), (6, Value.func (.func 55) #[] #[]), (7, Value.func (.func 48) #[] #[]), (8, .int .u64 0)] [(2, lcells X1 Y1 Z1), (3, lcells X2 Y2 Z2), (4, zl.toArray), (8, (fv (of co256)).cells)] qhs qhl ?_
  intro s l
  refine plR0 X1 Y1 Z1 X2 Y2 Z2 (of co256) ?_ s l
  intro G1 h1 s l
  refine n_then ?_
  refine v_seq ?_
  refine plR1 ?_ s l
  intro G2 h2 s l
  refine n_then ?_
  refine v_seq ?_
  refine plR2 ?_ s l
  intro G3 h3 s l
  refine n_then ?_
  refine v_seq ?_
  refine plR3 ?_ s l
  intro G4 h4 s l
  refine n_then ?_
  refine v_seq ?_
  refine plR4 ?_ s l
  intro G5 h5 s l
  refine n_then ?_
  refine v_seq ?_
  refine plR5 ?_ s l
  intro G6 h6 s l
  refine n_then ?_
  refine v_seq ?_
  generalize hQ : thenQ _ _ = Q'
  dsimp only [SL.sets, AL.sets]
  (repeat' (first | (with_reducible refine i_ops ?_; first | (refine g_callv ?_; refine s_cvM ?_) | (refine g_mv ?_; refine s_mv ?_) | refine o_nil ?_ | (refine g_lload ?_; refine s_lloadF ?_) | (refine g_lstore ?_; refine s_lstoreF ?_) | (refine g_lalloc ?_; refine s_lalloc ?_) | refine o_callp qrf (by exact threeF _ _) ?_) | (with_reducible refine i_vc ?_; refine v_ops ?_)))
  subst hQ
  refine n_then ?_
  refine v_seq ?_
  refine v_trim [(4, .int .u64 0), (5, Value.func (.func 51) #[] #[]), (6, Value.func (.func 55) #[] #[]), (7, Value.func (.func 48) #[] #[]), (8, .int .u64 0), (9, .int .u64 0), (10, .int .u64 0), (11, .int .u64 0), (12, .int .u64 0), (13, .int .u64 0), (14, .int .u64 0), (15, .int .u64 0), (16, .int .u64 0), (17, .int .u64 0)] [(4, zl.toArray), (8, (fv (of co256)).cells), (9, (fv (X1 * X2)).cells), (10, (fv (Y1 * Y2)).cells), (11, (fv (Z1 * Z2)).cells), (12, (fv ((X1 * Y2) + (X2 * Y1))).cells), (13, (fv ((Y1 * Z2) + (Y2 * Z1))).cells), (14, (fv ((X1 * Z2) + (X2 * Z1))).cells), (15, (fv ((((X1 * Z2) + (X2 * Z1)) - ((of co256) * (Z1 * Z2))) + (((X1 * Z2) + (X2 * Z1)) - ((of co256) * (Z1 * Z2))) + (((X1 * Z2) + (X2 * Z1)) - ((of co256) * (Z1 * Z2))))).cells), (16, (fv (((((of co256) * ((X1 * Z2) + (X2 * Z1))) - ((Z1 * Z2) + (Z1 * Z2) + (Z1 * Z2))) - (X1 * X2)) + ((((of co256) * ((X1 * Z2) + (X2 * Z1))) - ((Z1 * Z2) + (Z1 * Z2) + (Z1 * Z2))) - (X1 * X2)) + ((((of co256) * ((X1 * Z2) + (X2 * Z1))) - ((Z1 * Z2) + (Z1 * Z2) + (Z1 * Z2))) - (X1 * X2)))).cells), (17, (fv (((X1 * X2) - (Z1 * Z2)) + ((X1 * X2) - (Z1 * Z2)) + ((X1 * X2) - (Z1 * Z2)))).cells)] qhs qhl ?_
  clear s l
  intro s l
  refine plR6 ?_ s l
  intro G7 h7 s l
  refine n_then ?_
  dsimp only [SL.sets, AL.sets]
  (repeat' (first | (with_reducible refine i_ops ?_; first | (refine g_callv ?_; first | (refine s_cvT ?_; intro G' hle) | refine s_cvP ?_ | refine s_cvM ?_) | (refine g_mv ?_; refine s_mv ?_) | refine o_nil ?_ | (refine g_build ?_; refine s_bl3 ?_) | (refine g_lload ?_; refine s_lloadF ?_) | (refine g_lstore ?_; refine s_lstoreL ?_)) | (with_reducible refine i_vc ?_; first | refine v_seq ?_ | refine v_ret ?_ | refine v_draw0 ?_) | (with_reducible refine i_plan ?_; first | refine p_done ?_ | refine s_pre ?_ | refine s_preN ?_ | refine s_alt ?_) | (with_reducible first | refine n_then ?_ | (refine g_stand ?_; first | refine s_stand ?_ | refine s_standL ?_)) | ((with_reducible refine s_ret ?_); try simp only [x_tup0, x_tup1, x_tup2, x_tup3, x_tup4, x_tup5, and_true, true_and])))
  rw [l_ext]
  exact ⟨rfl, qle⟩
end Go.Proofs.Ytdeihgcgglhhcaa.V
end
section
/- Plain: sums of places, scaled. -/
set_option linter.unusedVariables false
namespace Go.Proofs.Ytdeihgcgglhhcaa.V
/-- The complete sum, for any coefficient. -/
def cX (b X1 Y1 Z1 X2 Y2 Z2 : Fp) : Fp := (X1 * Y2 + X2 * Y1) * (Y1 * Y2 + (X1 * Z2 + X2 * Z1 - b * (Z1 * Z2) + (X1 * Z2 + X2 * Z1 - b * (Z1 * Z2)) + (X1 * Z2 + X2 * Z1 - b * (Z1 * Z2)))) - (Y1 * Z2 + Y2 * Z1) * (b * (X1 * Z2 + X2 * Z1) - (Z1 * Z2 + Z1 * Z2 + Z1 * Z2) - X1 * X2 + (b * (X1 * Z2 + X2 * Z1) - (Z1 * Z2 + Z1 * Z2 + Z1 * Z2) - X1 * X2) + (b * (X1 * Z2 + X2 * Z1) - (Z1 * Z2 + Z1 * Z2 + Z1 * Z2) - X1 * X2))
def cZ (b X1 Y1 Z1 X2 Y2 Z2 : Fp) : Fp := (Y1 * Z2 + Y2 * Z1) * (Y1 * Y2 - (X1 * Z2 + X2 * Z1 - b * (Z1 * Z2) + (X1 * Z2 + X2 * Z1 - b * (Z1 * Z2)) + (X1 * Z2 + X2 * Z1 - b * (Z1 * Z2)))) + (X1 * Y2 + X2 * Y1) * (X1 * X2 - Z1 * Z2 + (X1 * X2 - Z1 * Z2) + (X1 * X2 - Z1 * Z2))
theorem plX_c (X1 Y1 Z1 X2 Y2 Z2 : Fp) : plX X1 Y1 Z1 X2 Y2 Z2 = cX (of co256) X1 Y1 Z1 X2 Y2 Z2 := rfl
theorem plZ_c (X1 Y1 Z1 X2 Y2 Z2 : Fp) : plZ X1 Y1 Z1 X2 Y2 Z2 = cZ (of co256) X1 Y1 Z1 X2 Y2 Z2 := rfl
theorem cX_s (b x1 y1 z1 x2 y2 z2 : Fp) : cX b (x1 * z1) (y1 * z1) z1 (x2 * z2) (y2 * z2) z2 = z1 * z2 * (z1 * z2) * cX b x1 y1 1 x2 y2 1 := by
  unfold cX
  grind
theorem cZ_s (b x1 y1 z1 x2 y2 z2 : Fp) : cZ b (x1 * z1) (y1 * z1) z1 (x2 * z2) (y2 * z2) z2 = z1 * z2 * (z1 * z2) * cZ b x1 y1 1 x2 y2 1 := by
  unfold cZ
  grind
def cY (b X1 Y1 Z1 X2 Y2 Z2 : Fp) : Fp := (Y1 * Y2 + (X1 * Z2 + X2 * Z1 - b * (Z1 * Z2) + (X1 * Z2 + X2 * Z1 - b * (Z1 * Z2)) + (X1 * Z2 + X2 * Z1 - b * (Z1 * Z2)))) * (Y1 * Y2 - (X1 * Z2 + X2 * Z1 - b * (Z1 * Z2) + (X1 * Z2 + X2 * Z1 - b * (Z1 * Z2)) + (X1 * Z2 + X2 * Z1 - b * (Z1 * Z2)))) + (X1 * X2 - Z1 * Z2 + (X1 * X2 - Z1 * Z2) + (X1 * X2 - Z1 * Z2)) * (b * (X1 * Z2 + X2 * Z1) - (Z1 * Z2 + Z1 * Z2 + Z1 * Z2) - X1 * X2 + (b * (X1 * Z2 + X2 * Z1) - (Z1 * Z2 + Z1 * Z2 + Z1 * Z2) - X1 * X2) + (b * (X1 * Z2 + X2 * Z1) - (Z1 * Z2 + Z1 * Z2 + Z1 * Z2) - X1 * X2))
theorem plY_c (X1 Y1 Z1 X2 Y2 Z2 : Fp) : plY X1 Y1 Z1 X2 Y2 Z2 = cY (of co256) X1 Y1 Z1 X2 Y2 Z2 := rfl
theorem cY_s (b x1 y1 z1 x2 y2 z2 : Fp) : cY b (x1 * z1) (y1 * z1) z1 (x2 * z2) (y2 * z2) z2 = z1 * z2 * (z1 * z2) * cY b x1 y1 1 x2 y2 1 := by
  unfold cY
  grind
/-- On the curve. -/
def Cv (b x y : Fp) : Prop := y * y = x * x * x - (x + x + x) + b
/-- The chord's point: x by dx dx, y by dx dx dx. -/
def chN (x1 y1 x2 y2 : Fp) : Fp := (y2 - y1) * (y2 - y1) - (x1 + x2) * ((x2 - x1) * (x2 - x1))
def chY (x1 y1 x2 y2 : Fp) : Fp := (y2 - y1) * (x1 * ((x2 - x1) * (x2 - x1)) - chN x1 y1 x2 y2) - y1 * ((x2 - x1) * (x2 - x1) * (x2 - x1))
/-- The tangent's point: x by 4 y y, y by 8 y y y. -/
def tgN (x y : Fp) : Fp := (3 * (x * x) - 3) * (3 * (x * x) - 3) - 8 * (x * (y * y))
def tgY (x y : Fp) : Fp := (3 * (x * x) - 3) * (4 * (x * (y * y)) - tgN x y) - 8 * (y * y * (y * y))
theorem cZ_dbl (b x y : Fp) (h : Cv b x y) : cZ b x y 1 x y 1 = 8 * (y * y * y) := by
  unfold cZ Cv at *
  grind
theorem cX_dbl (b x y : Fp) (h : Cv b x y) : cX b x y 1 x y 1 = 2 * y * tgN x y := by
  unfold cX tgN Cv at *
  grind
theorem cY_dbl (b x y : Fp) (h : Cv b x y) : cY b x y 1 x y 1 = tgY x y := by
  unfold cY tgY tgN Cv at *
  grind
theorem cZ_opp (b x y : Fp) : cZ b x y 1 x (0 - y) 1 = 0 := by
  unfold cZ
  grind
theorem cX_opp (b x y : Fp) : cX b x y 1 x (0 - y) 1 = 0 := by
  unfold cX
  grind
theorem cY_opp (b x y : Fp) (h : Cv b x y) : cY b x y 1 x (0 - y) 1 = tgY x y := by
  unfold cY tgY tgN Cv at *
  grind
theorem cZ_far (b x y z Y : Fp) : cZ b 0 Y 0 x y z = z * (Y * (Y * y)) := by
  unfold cZ
  grind
theorem cX_far (b x y z Y : Fp) : cX b 0 Y 0 x y z = x * (Y * (Y * y)) := by
  unfold cX
  grind
theorem cY_far (b x y z Y : Fp) : cY b 0 Y 0 x y z = y * (Y * (Y * y)) := by
  unfold cY
  grind
theorem cZ_neg (b x1 y1 x2 y2 : Fp) (h1 : Cv b x1 y1) (h2 : Cv b x2 y2) : cZ b x1 y1 1 x2 y2 1 = chY x1 y1 x2 (0 - y2) ∨ cZ b x1 y1 1 x2 y2 1 = 0 - chY x1 y1 x2 (0 - y2) := by
  first
  | (left; unfold cZ chY chN Cv at *; grind)
  | (right; unfold cZ chY chN Cv at *; grind)
theorem ch_on (b x1 y1 x2 y2 : Fp) (h1 : Cv b x1 y1) (h2 : Cv b x2 y2) : chY x1 y1 x2 y2 * chY x1 y1 x2 y2 = chN x1 y1 x2 y2 * chN x1 y1 x2 y2 * chN x1 y1 x2 y2 - 3 * chN x1 y1 x2 y2 * ((x2 - x1) * (x2 - x1) * ((x2 - x1) * (x2 - x1))) + b * ((x2 - x1) * (x2 - x1) * ((x2 - x1) * (x2 - x1)) * ((x2 - x1) * (x2 - x1))) := by
  unfold chY chN Cv at *
  grind
theorem tg_on (b x y : Fp) (h : Cv b x y) : tgY x y * tgY x y = tgN x y * tgN x y * tgN x y - 48 * tgN x y * (y * y * (y * y)) + 64 * b * (y * y * (y * y) * (y * y)) := by
  unfold tgY tgN Cv at *
  grind
theorem cX_ch (b x1 y1 x2 y2 : Fp) (h1 : Cv b x1 y1) (h2 : Cv b x2 y2) : cX b x1 y1 1 x2 y2 1 * ((x2 - x1) * (x2 - x1)) = chN x1 y1 x2 y2 * cZ b x1 y1 1 x2 y2 1 := by
  unfold cX cZ chN Cv at *
  grind
theorem cY_ch (b x1 y1 x2 y2 : Fp) (h1 : Cv b x1 y1) (h2 : Cv b x2 y2) : cY b x1 y1 1 x2 y2 1 * ((x2 - x1) * (x2 - x1) * (x2 - x1)) = chY x1 y1 x2 y2 * cZ b x1 y1 1 x2 y2 1 := by
  unfold cY cZ chY chN Cv at *
  grind
end Go.Proofs.Ytdeihgcgglhhcaa.V
end
section
/- The document's places: three numbers of eight words. -/
set_option linter.unusedSimpArgs false
set_option linter.unusedVariables false
set_option maxRecDepth 20000
-- @retp
-- @extra s_eqP s_eqF s_eqM s_eqD s_naddc s_nadd s_naddL s_nilck s_fptr0
-- @pre g_lload s_lloadJ s_lloadJX s_lloadJY s_lloadJZ s_lloadM s_lloadPI s_lloadPX s_lloadPY s_lloadPP
-- @pre g_lstore s_lstoreJ s_lstoreM s_lstoreP
-- @pre g_lbox s_lboxJ s_lboxM s_lboxP
-- @pre g_build s_bm0 s_bj3 s_bp3 s_bp2 s_bp1 s_bp0
namespace Go.Proofs.Ytdeihgcgglhhcaa.V
open Go.RowKit Go.ChangeShapes Go.WideShapes
theorem len8 (X : Fp) : ((fd 4294967296 8 (mo X)).map (iv .u64)).length = 8 := by simp [fd_len]
def jcells (X Y Z : Fp) : Array Value := ((fd 4294967296 8 (mo X)).map (iv .u64) ++ ((fd 4294967296 8 (mo Y)).map (iv .u64) ++ (fd 4294967296 8 (mo Z)).map (iv .u64))).toArray
def jpl (X Y Z : Fp) : Value := .agg (jcells X Y Z)
theorem jc_size (X Y Z : Fp) : (jcells X Y Z).size = 24 := by simp [jcells, fd_len]
def zj : List Value := List.replicate 24 (iv .u64 0)
theorem build_j3 {a b c : List Value} {u v w : Value} (hu : u.cells = a.toArray) (hv : v.cells = b.toArray) (hw : w.cells = c.toArray) (ha : a.length = 8) (hb : b.length = 8) (hc : c.length = 8) : pureV (.build zj.toArray [(0, 8), (8, 8), (16, 8)]) [u, v, w] = some (.agg (a ++ (b ++ c)).toArray) := by
  rw [pure_build', fill_step hu ha (by simp [zj]), fill_step hv hb (by simp [zj, ha]), fill_step hw hc (by simp [zj, ha, hb])]
  have e1 : List.take 16 a = a := List.take_of_length_le (by omega)
  have e2 : List.drop 24 a = [] := List.drop_of_length_le (by omega)
  have e3 : List.drop 16 b = [] := List.drop_of_length_le (by omega)
  show some (Value.agg _) = _
  simp [zj, List.take_append, List.drop_append, ha, hb, hc, e1, e2, e3]
theorem buildJ3 (X Y Z : Fp) : pureV (.build zj.toArray [(0, 8), (8, 8), (16, 8)]) [fm X, fm Y, fm Z] = some (jpl X Y Z) := build_j3 rfl rfl rfl (len8 X) (len8 Y) (len8 Z)
theorem take_j {a b c : List Value} (ha : a.length = 8) (hb : b.length = 8) (hc : c.length = 8) : takeV true (a ++ (b ++ c)).toArray 0 8 = some (.agg a.toArray) ∧ takeV true (a ++ (b ++ c)).toArray 8 8 = some (.agg b.toArray) ∧ takeV true (a ++ (b ++ c)).toArray 16 8 = some (.agg c.toArray) := by
  have hs : (a ++ (b ++ c)).toArray.size = 24 := by simp [ha, hb, hc]
  have e1 : List.take 8 a = a := List.take_of_length_le (by omega)
  have e2 : List.take 8 b = b := List.take_of_length_le (by omega)
  have e3 : List.take 8 c = c := List.take_of_length_le (by omega)
  have e4 : List.drop 16 a = [] := List.drop_of_length_le (by omega)
  have e5 : List.drop 8 a = [] := List.drop_of_length_le (by omega)
  refine ⟨?_, ?_, ?_⟩
  · show (if 0 + 8 ≤ (a ++ (b ++ c)).toArray.size then some (Value.agg ((a ++ (b ++ c)).toArray.extract 0 (0 + 8))) else none) = _
    rw [if_pos (by omega)]
    simp [List.extract_eq_take_drop, List.take_append, ha, e1]
  · show (if 8 + 8 ≤ (a ++ (b ++ c)).toArray.size then some (Value.agg ((a ++ (b ++ c)).toArray.extract 8 (8 + 8))) else none) = _
    rw [if_pos (by omega)]
    simp [List.extract_eq_take_drop, List.take_append, List.drop_append, ha, hb, e2, e5]
  · show (if 16 + 8 ≤ (a ++ (b ++ c)).toArray.size then some (Value.agg ((a ++ (b ++ c)).toArray.extract 16 (16 + 8))) else none) = _
    rw [if_pos (by omega)]
    simp [List.extract_eq_take_drop, List.take_append, List.drop_append, ha, hb, e3, e4]
section
variable {P : Program} {E : Env} {K : St → Prop} {r : List Stp} {dd : Option Nat} {L : SL} {A : AL} {G : GH} {X Y Z : Fp}
theorem s_bj3 {d : Nat} {z : Array Value} {xs : List Operand} {u v w : Value} (h : vops P E r K (S (.set d (jpl X Y Z) L) A G)) (hx : evs L xs = some [u, v, w] ∧ u = fm X ∧ v = fm Y ∧ w = fm Z := by (refine ⟨by with_unfolding_all rfl, ?_, ?_, ?_⟩ <;> with_reducible rfl)) (hz : z = zj.toArray := by with_unfolding_all rfl) : vops P E (⟨none, dd, .pure d (.build z [(0, 8), (8, 8), (16, 8)]) xs⟩ :: r) K (S L A G) := by
  subst hz
  obtain ⟨hx, rfl, rfl, rfl⟩ := hx
  exact o_pure hx (buildJ3 X Y Z) h
theorem s_bm0 {d : Nat} {z : Array Value} (h : vops P E r K (S (.set d (fm 0) L) A G)) (hz : z = #[.int .u64 0, .int .u64 0, .int .u64 0, .int .u64 0, .int .u64 0, .int .u64 0, .int .u64 0, .int .u64 0] := by with_unfolding_all rfl) : vops P E (⟨none, dd, .pure d (.build z []) []⟩ :: r) K (S L A G) := by
  subst hz
  exact o_pure (vs := []) rfl rfl h
theorem s_lstoreJ {k s0 : Nat} {o : Operand} {v : Value} {cs : Array Value} (h : vops P E r K (S L (.set k (jcells X Y Z) A) G)) (hp : L.get s0 = some (.int .u64 0) := by with_unfolding_all rfl) (hx : evo L o = some v ∧ v = jpl X Y Z := by (refine ⟨by with_unfolding_all rfl, ?_⟩; with_reducible rfl)) (hc : A.get k = some cs ∧ cs.size = 24 := by (refine ⟨by with_unfolding_all rfl, ?_⟩; first | exact jc_size _ _ _ | with_unfolding_all rfl)) : vops P E (⟨none, dd, .lstore k s0 24 o⟩ :: r) K (S L A G) := by
  refine o_lstoreA (y := jpl X Y Z) hp hc.1 (by rw [hx.1, hx.2]) rfl (by simp [fd_len]) hc.2.symm ?_ h
  simp [cells1, Value.oneCell']
theorem s_lloadJ {d k s0 : Nat} {cs : Array Value} (h : vops P E r K (S (.set d (jpl X Y Z) L) A G)) (hp : L.get s0 = some (.int .u64 0) := by with_unfolding_all rfl) (hc : A.get k = some cs ∧ cs = jcells X Y Z := by (refine ⟨by with_unfolding_all rfl, ?_⟩; with_reducible rfl)) : vops P E (⟨none, dd, .lload d k s0 24 true⟩ :: r) K (S L A G) :=
  o_lload hp hc.1 (by rw [hc.2]; exact x_takeA (cs := jcells X Y Z) (jc_size X Y Z)) h
theorem s_lloadJX {d k s0 : Nat} {cs : Array Value} (h : vops P E r K (S (.set d (fm X) L) A G)) (hp : L.get s0 = some (.int .u64 0) := by with_unfolding_all rfl) (hc : A.get k = some cs ∧ cs = jcells X Y Z := by (refine ⟨by with_unfolding_all rfl, ?_⟩; with_reducible rfl)) : vops P E (⟨none, dd, .lload d k s0 8 true⟩ :: r) K (S L A G) :=
  o_lload hp hc.1 (by rw [hc.2]; exact (take_j (len8 X) (len8 Y) (len8 Z)).1) h
theorem s_lloadJY {d k s0 : Nat} {cs : Array Value} (h : vops P E r K (S (.set d (fm Y) L) A G)) (hp : L.get s0 = some (.int .u64 8) := by with_unfolding_all rfl) (hc : A.get k = some cs ∧ cs = jcells X Y Z := by (refine ⟨by with_unfolding_all rfl, ?_⟩; with_reducible rfl)) : vops P E (⟨none, dd, .lload d k s0 8 true⟩ :: r) K (S L A G) :=
  o_lload hp hc.1 (by rw [hc.2]; exact (take_j (len8 X) (len8 Y) (len8 Z)).2.1) h
theorem s_lloadJZ {d k s0 : Nat} {cs : Array Value} (h : vops P E r K (S (.set d (fm Z) L) A G)) (hp : L.get s0 = some (.int .u64 16) := by with_unfolding_all rfl) (hc : A.get k = some cs ∧ cs = jcells X Y Z := by (refine ⟨by with_unfolding_all rfl, ?_⟩; with_reducible rfl)) : vops P E (⟨none, dd, .lload d k s0 8 true⟩ :: r) K (S L A G) :=
  o_lload hp hc.1 (by rw [hc.2]; exact (take_j (len8 X) (len8 Y) (len8 Z)).2.2) h
theorem s_lboxJ {d k : Nat} {o : Operand} {v : Value} {ts : List Nat} (h : vops P E r K (S (.set d (.int .u64 0) (.kill ts L)) (.set k (jcells X Y Z) A) G)) (hx : evo L o = some v ∧ v = jpl X Y Z := by (refine ⟨by with_unfolding_all rfl, ?_⟩; with_reducible rfl)) (ho : onceE E.env = true := by with_unfolding_all rfl) (hk : slotsOf E.env k = some ts := by with_unfolding_all rfl) : vops P E (⟨none, dd, .lbox d k o⟩ :: r) K (S L A G) := o_lbox ho hk hx.1 (by rw [hx.2]; rfl) h
end
theorem j_ext (X Y Z : Fp) : Value.agg ((jcells X Y Z).extract 0 24) = jpl X Y Z := by
  have h := jc_size X Y Z
  have := Array.extract_size (xs := jcells X Y Z)
  rw [h] at this
  rw [this]; rfl
/-- A whole field's object. -/
abbrev FW (G : GH) (b : Nat) : Prop := FQ G b (115792089237316195423570985008687907853269984665640564039457584007913129639936 % p256) sq256
theorem atR (b : Nat) (x y : List UInt8) (i : Bool) (G : GH) (hf : FW G b) (hx : x.length = 32) (hy : y.length = 32) : HC Try.prog 46 #[pf b, pnt x y i] G fun v G' => v = (if i then jpl 1 1 0 else jpl (of (be x)) (of (be y)) 1) ∧ G' = G := by
  have F := hf.fo
  have P1 : PtR G (.pointer (some ⟨b, 8, none⟩)) 8 true (fm 1) := hf.one
  have P2 := hf.sq
  have hbx : be x < 115792089237316195423570985008687907853269984665640564039457584007913129639936 := by have := be_lt x; rw [hx] at this; exact this
  have hby : be y < 115792089237316195423570985008687907853269984665640564039457584007913129639936 := by have := be_lt y; rw [hy] at this; exact this
  refine HC.start comp46 rfl ?_; unfold pc46
  (repeat' (first | (with_reducible refine i_ops ?_; first | (refine g_mv ?_; refine s_mv ?_) | refine o_nil ?_ | (refine g_build ?_; first | refine s_bm0 ?_ | refine s_bj3 ?_) | (refine g_pure ?_; first | refine s_nilck ?_ | refine s_fptr0 ?_) | (refine g_lfield ?_; refine s_lfield ?_) | (refine g_lload ?_; first | refine s_lloadPI ?_ | refine s_lloadPX ?_ | refine s_lloadPY ?_) | (refine g_lstore ?_; refine s_lstoreJ ?_) | (refine g_lalloc ?_; refine s_lalloc ?_) | (refine g_lbox ?_; refine s_lboxP ?_) | (refine g_hload ?_; refine s_hloadP ?_)) | (with_reducible refine i_vc ?_; first | refine v_seq ?_ | refine v_ops ?_ | (refine g_cond ?_; first | refine s_cond_t ?_ | refine s_cond_f ?_) | refine v_skip ?_ | refine v_ret ?_ | refine v_draw0 ?_) | (with_reducible refine i_plan ?_; first | refine p_done ?_ | refine s_pre ?_ | refine p_callp qrf (by first | exact fromR _ _ hx | exact fromR _ _ hy | exact mulSqM b (be x) hbx G F | exact mulSqM b (be y) hby G F) qle ?_ p_no | refine s_alt ?_) | (with_reducible first | refine n_then ?_ | refine r_then ?_ | (refine g_stand ?_; refine s_standL ?_)) | ((with_reducible refine s_cond_c ?_ ?_) <;> intro hb <;> rw [hb] <;> (try simp only [decide_eq_true_eq, decide_eq_false_iff_not, beq_iff_eq, bne_iff_ne, beq_eq_false_iff_ne, bne_eq_false_iff_eq, ne_eq, Int.not_lt, Int.not_le, gt_iff_lt, ge_iff_le, Bool.not_eq_true', Bool.not_eq_false'] at hb)) | ((with_reducible refine s_ret ?_); try simp only [x_tup0, x_tup1, x_tup2, x_tup3, x_tup4, x_tup5, and_true, true_and])))
  · rw [j_ext, if_pos trivial]
  · rw [j_ext, if_neg (by decide)]
end Go.Proofs.Ytdeihgcgglhhcaa.V
end
section
/- Plain: points by places; the complete sum's places. -/
set_option linter.unusedVariables false
namespace Go.Proofs.Ytdeihgcgglhhcaa.V
/-- What is to be known of p: inverses, and that the curve's cubic has no root. -/
structure Fld : Prop where
  inv : ∀ a : Fp, ¬a = 0 → finv a * a = 1
  root : ∀ x : Fp, ¬x * x * x - (x + x + x) + of co256 = 0
abbrev kb : Fp := of co256
theorem Fld.can (F : Fld) {a b c : Fp} (ha : ¬a = 0) (h : a * b = a * c) : b = c := by
  have h1 := F.inv a ha
  generalize finv a = i at h1
  have : i * (a * b) = i * (a * c) := by rw [h]
  grind
theorem Fld.nz (F : Fld) {a b : Fp} (ha : ¬a = 0) (hb : ¬b = 0) : ¬a * b = 0 := fun h => hb (F.can ha (by rw [h]; grind))
theorem Fld.y0 (F : Fld) {x y : Fp} (h : Cv kb x y) : ¬y = 0 := by
  intro e
  refine F.root x ?_
  unfold Cv kb at h
  rw [← h, e]
  grind
/-- A place that tells a point; none: the far one. -/
def Rp (X Y Z : Fp) : Option (Fp × Fp) → Prop
  | none => X = 0 ∧ Z = 0 ∧ ¬Y = 0
  | some (x, y) => ¬Z = 0 ∧ X = x * Z ∧ Y = y * Z
def Oc : Option (Fp × Fp) → Prop
  | none => True
  | some (x, y) => Cv kb x y
end Go.Proofs.Ytdeihgcgglhhcaa.V
end
section
/- Plain: Fermat's little theorem. -/
set_option linter.unusedVariables false
namespace Go.Proofs.Ytdeihgcgglhhcaa.V
def bch : Nat → Nat → Nat
  | _, 0 => 1
  | 0, _ + 1 => 0
  | n + 1, k + 1 => bch n k + bch n (k + 1)
theorem bch0 (n : Nat) : bch n 0 = 1 := by cases n <;> rfl
theorem bchS (n k : Nat) : bch (n + 1) (k + 1) = bch n k + bch n (k + 1) := rfl
theorem bch_mul : ∀ n k, (k + 1) * bch (n + 1) (k + 1) = (n + 1) * bch n k
  | 0, 0 => rfl
  | 0, k + 1 => by simp [bch]
  | n + 1, 0 => by
    have h := bch_mul n 0
    rw [bch0] at h
    rw [bchS, bch0, Nat.mul_add, h]
    omega
  | n + 1, k + 1 => by
    have h1 := bch_mul n k
    have h2 := bch_mul n (k + 1)
    rw [bchS (n + 1)]
    have e := bchS n k
    generalize bch (n + 1) (k + 1) = A at *
    generalize bch (n + 1) (k + 1 + 1) = B at *
    generalize bch n k = C at *
    generalize bch n (k + 1) = D at *
    subst e
    grind
theorem bch_gt : ∀ n k, n < k → bch n k = 0
  | 0, k + 1, _ => rfl
  | n + 1, k + 1, h => by rw [bchS, bch_gt n k (by omega), bch_gt n (k + 1) (by omega)]
theorem bch_self (n : Nat) : bch n n = 1 := by
  induction n with
  | zero => rfl
  | succ n ih => rw [bchS, ih, bch_gt n (n + 1) (by omega)]
def bsum (n a : Nat) : Nat → Nat
  | 0 => 0
  | m + 1 => bsum n a m + bch n m * a ^ m
theorem bsum_S (n a m : Nat) : bsum (n + 1) a (m + 1) = bsum n a (m + 1) + a * bsum n a m := by
  induction m with
  | zero => simp [bsum, bch0]
  | succ m ih =>
    rw [bsum, ih, bsum, bchS, bsum, bsum, Nat.pow_succ]
    generalize a ^ m = q
    grind
theorem binom (n a : Nat) : (a + 1) ^ n = bsum n a (n + 1) := by
  induction n with
  | zero => simp [bsum, bch]
  | succ n ih =>
    rw [bsum_S, bsum, bch_gt n (n + 1) (by omega), ← ih, Nat.pow_succ]
    grind
def IsP (p : Nat) : Prop := 1 < p ∧ ∀ a b, p ∣ a * b → p ∣ a ∨ p ∣ b
theorem bch_dvd {p : Nat} (hp : IsP p) {k : Nat} (h0 : 0 < k) (h1 : k < p) : p ∣ bch p k := by
  obtain ⟨k, rfl⟩ : ∃ j, k = j + 1 := ⟨k - 1, by omega⟩
  have e : p - 1 + 1 = p := by omega
  have h := bch_mul (p - 1) k
  rw [e] at h
  rcases hp.2 (k + 1) (bch p (k + 1)) ⟨_, h⟩ with g | g
  · exact absurd (Nat.le_of_dvd (by omega) g) (by omega)
  · exact g
theorem bsum_mod {p : Nat} (hp : IsP p) (a : Nat) : ∀ m, m < p → bsum p a (m + 1) % p = 1 % p := by
  intro m
  induction m with
  | zero => intro _; simp [bsum, bch0]
  | succ m ih =>
    intro h
    rw [bsum, Nat.add_mod, ih (by omega)]
    have : bch p (m + 1) * a ^ (m + 1) % p = 0 := Nat.mod_eq_zero_of_dvd (Nat.dvd_trans (bch_dvd hp (by omega) h) (Nat.dvd_mul_right _ _))
    rw [this]
    simp
theorem fermat {p : Nat} (hp : IsP p) (a : Nat) : a ^ p % p = a % p := by
  have h1 := hp.1
  induction a with
  | zero => rw [Nat.zero_pow (by omega)]
  | succ a ih =>
    have e : p - 1 + 1 = p := by omega
    have h := bsum_mod hp a (p - 1) (by omega)
    rw [e] at h
    rw [binom, bsum, bch_self, Nat.one_mul, Nat.add_mod, h, ih, ← Nat.add_mod, Nat.add_comm]
end Go.Proofs.Ytdeihgcgglhhcaa.V
end
section
/- Plain: inverses, if p is a prime. -/
set_option linter.unusedVariables false
namespace Go.Proofs.Ytdeihgcgglhhcaa.V
theorem fpow_val (x : Fp) (n : Nat) : (fpow x n).val = x.val ^ n % p256 := by
  induction n using Nat.strongRecOn with
  | _ n ih =>
    by_cases h0 : n = 0
    · subst h0
      rw [fpow_zero]
      rfl
    · have h := ih (n / 2) (by omega)
      rw [fpow_step x n _ rfl]
      have e : n = n / 2 + n / 2 + n % 2 := by omega
      have v2 : (fpow x (n / 2) * fpow x (n / 2)).val = x.val ^ (n / 2 + n / 2) % p256 := by
        rw [Fin.val_mul, h, Nat.pow_add, ← Nat.mul_mod]
      by_cases h1 : n % 2 = 1
      · rw [if_pos h1, Fin.val_mul, v2]
        conv => rhs; rw [e, h1, Nat.pow_succ]
        rw [Nat.mod_mul_mod]
      · rw [if_neg h1, v2]
        conv => rhs; rw [e, show n % 2 = 0 by omega]
        rfl
theorem inv_of (hp : IsP p256) (a : Fp) (ha : ¬a = 0) : finv a * a = 1 := by
  have hv : ¬a.val = 0 := fun h => ha (Fin.ext h)
  have hf := fermat hp a.val
  have e : p256 = inv256 + 1 + 1 := by decide
  have h1 : (finv a * a).val = a.val ^ (inv256 + 1) % p256 := by
    rw [Fin.val_mul, finv, fpow_val, Nat.mod_mul_mod, ← Nat.pow_succ]
  have hle : 1 ≤ a.val ^ (inv256 + 1) := Nat.pos_of_ne_zero (by
    intro h
    exact hv (Nat.pow_eq_zero.mp h).1)
  have hd : p256 ∣ a.val * (a.val ^ (inv256 + 1) - 1) := by
    rw [Nat.mul_sub, Nat.mul_one, Nat.mul_comm, ← Nat.pow_succ]
    have e2 : a.val ^ (inv256 + 1).succ = a.val ^ p256 := congrArg (a.val ^ ·) e.symm
    rw [e2]
    exact Nat.dvd_of_mod_eq_zero (Nat.sub_mod_eq_zero_of_mod_eq hf)
  rcases hp.2 _ _ hd with g | g
  · exact absurd (Nat.le_of_dvd (by omega) g) (by have := a.isLt; omega)
  · refine Fin.ext ?_
    rw [h1]
    have : a.val ^ (inv256 + 1) = a.val ^ (inv256 + 1) - 1 + 1 := by omega
    rw [this, Nat.add_mod, Nat.mod_eq_zero_of_dvd g]
    rfl
end Go.Proofs.Ytdeihgcgglhhcaa.V
end
section
/- Plain: no root of the cubic; primes by having no divisor. -/
set_option linter.unusedVariables false
namespace Go.Proofs.Ytdeihgcgglhhcaa.V
theorem isP_of {p : Nat} (h1 : 1 < p) (h : ∀ d, d ∣ p → d = 1 ∨ d = p) : IsP p := by
  refine ⟨h1, fun a b hab => ?_⟩
  rcases h (Nat.gcd p a) (Nat.gcd_dvd_left _ _) with e | e
  · exact .inr (Nat.Coprime.dvd_of_dvd_mul_left e hab)
  · exact .inl (e ▸ Nat.gcd_dvd_right p a)
end Go.Proofs.Ytdeihgcgglhhcaa.V
end
section
/- Plain: powers that are 1. -/
set_option linter.unusedVariables false
namespace Go.Proofs.Ytdeihgcgglhhcaa.V
theorem pow_one_mul {q a m : Nat} (hq : 1 < q) (h : a ^ m % q = 1) (k : Nat) : a ^ (m * k) % q = 1 := by
  rw [Nat.pow_mul, Nat.pow_mod, h, Nat.one_pow, Nat.mod_eq_of_lt hq]
theorem pow_gcd {q a : Nat} (hq : 1 < q) (m n : Nat) (h1 : a ^ m % q = 1) (h2 : a ^ n % q = 1) : a ^ Nat.gcd m n % q = 1 := by
  induction m, n using Nat.gcd.induction with
  | H0 n => rw [Nat.gcd_zero_left]; exact h2
  | H1 m n hm ih =>
    rw [Nat.gcd_rec]
    refine ih ?_ h1
    have e : a ^ n = a ^ (m * (n / m)) * a ^ (n % m) := by rw [← Nat.pow_add, Nat.div_add_mod]
    rw [e, Nat.mul_mod, pow_one_mul hq h1, Nat.one_mul, Nat.mod_mod] at h2
    exact h2
end Go.Proofs.Ytdeihgcgglhhcaa.V
end
section
/- Plain: what divides a power of a prime; Pocklington's step. -/
set_option linter.unusedVariables false
namespace Go.Proofs.Ytdeihgcgglhhcaa.V
theorem div_less {g r e m : Nat} (hr0 : 0 < r) (hr : ∀ t, t ∣ r ^ (e + 1) → t = 1 ∨ r ∣ t) (hg : g ∣ r ^ (e + 1) * m) (hn : ¬r ^ (e + 1) ∣ g) : g ∣ r ^ e * m := by
  have h1 : Nat.gcd g (r ^ (e + 1)) ∣ r ^ e := by
    obtain ⟨t, ht⟩ := Nat.gcd_dvd_right g (r ^ (e + 1))
    have hl := Nat.gcd_dvd_left g (r ^ (e + 1))
    generalize Nat.gcd g (r ^ (e + 1)) = d at *
    rcases hr t ⟨_, by rw [Nat.mul_comm]; exact ht⟩ with h | ⟨s, hs⟩
    · rw [h, Nat.mul_one] at ht
      exact absurd (ht ▸ hl) hn
    · refine ⟨s, ?_⟩
      refine Nat.eq_of_mul_eq_mul_left hr0 ?_
      rw [Nat.pow_succ, hs] at ht
      rw [Nat.mul_comm r, ht, Nat.mul_left_comm]
  have h2 : g ∣ Nat.gcd g (r ^ (e + 1)) * Nat.gcd g m := by
    have := Nat.gcd_mul_right_dvd_mul_gcd g (r ^ (e + 1)) m
    rwa [Nat.gcd_eq_left hg] at this
  exact Nat.dvd_trans h2 (Nat.mul_dvd_mul h1 (Nat.gcd_dvd_right g m))
theorem fermat1 {q : Nat} (hq : IsP q) {a : Nat} (ha : ¬q ∣ a) : a ^ (q - 1) % q = 1 := by
  have h1 := hq.1
  have e : q - 1 + 1 = q := by omega
  have hf := fermat hq a
  rw [← e, Nat.pow_succ, e] at hf
  have hpos : 0 < a ^ (q - 1) := by
    rcases Nat.eq_zero_or_pos a with h | h
    · exact absurd (h ▸ Nat.dvd_zero q) ha
    · exact Nat.pow_pos h
  have hd : q ∣ (a ^ (q - 1) - 1) * a := by
    rw [Nat.sub_mul, Nat.one_mul]
    exact Nat.dvd_of_mod_eq_zero (Nat.sub_mod_eq_zero_of_mod_eq hf)
  rcases hq.2 _ _ hd with g | g
  · have : a ^ (q - 1) = a ^ (q - 1) - 1 + 1 := by omega
    rw [this, Nat.add_mod, Nat.mod_eq_zero_of_dvd g, Nat.zero_add, Nat.mod_mod, Nat.mod_eq_of_lt h1]
  · exact absurd g ha
/-- A power modulo p. -/
def pwm (p a n : Nat) : Nat := a ^ n % p
theorem pock {p q a r e m A i : Nat} (hq : IsP q) (hqp : q ∣ p) (hr0 : 0 < r) (hr : ∀ t, t ∣ r ^ (e + 1) → t = 1 ∨ r ∣ t) (hm : p - 1 = r ^ (e + 1) * m) (hp : 1 < p)
    (h1 : pwm p a (p - 1) = 1) (hA : pwm p a (r ^ e * m) = A) (hA0 : 0 < A) (hi : (A + (p - 1)) * i % p = 1) : r ^ (e + 1) ∣ q - 1 := by
  unfold pwm at h1 hA
  have hq1 := hq.1
  have toq : ∀ x, x % p = 1 → x % q = 1 := fun x h => by rw [← Nat.mod_mod_of_dvd x hqp, h, Nat.mod_eq_of_lt hq1]
  have h1q := toq _ h1
  have ha : ¬q ∣ a := by
    intro h
    have : q ∣ a ^ (p - 1) := by
      have e1 : p - 1 = p - 1 - 1 + 1 := by omega
      rw [e1, Nat.pow_succ]
      exact Nat.dvd_trans h (Nat.dvd_mul_left _ _)
    rw [Nat.mod_eq_zero_of_dvd this] at h1q
    exact absurd h1q (by decide)
  have h2 := pow_gcd hq1 _ _ h1q (fermat1 hq ha)
  refine Decidable.byContradiction fun hn => ?_
  have hg : Nat.gcd (p - 1) (q - 1) ∣ r ^ e * m := by
    refine div_less hr0 hr (hm ▸ Nat.gcd_dvd_left _ _) fun h => hn (Nat.dvd_trans h (Nat.gcd_dvd_right _ _))
  obtain ⟨k, hk⟩ := hg
  have h3 : a ^ (r ^ e * m) % q = 1 := by rw [hk]; exact pow_one_mul hq1 h2 k
  have h4 : A % q = 1 := by rw [← hA, Nat.mod_mod_of_dvd _ hqp, h3]
  have h5 : q ∣ A + (p - 1) := by
    have e2 : A + (p - 1) = (A - 1) + p := by omega
    rw [e2]
    refine Nat.dvd_add ?_ hqp
    exact Nat.dvd_of_mod_eq_zero (Nat.sub_mod_eq_zero_of_mod_eq (by rw [h4, Nat.mod_eq_of_lt hq1]))
  have h6 := toq _ hi
  rw [Nat.mod_eq_zero_of_dvd (Nat.dvd_trans h5 (Nat.dvd_mul_right _ _))] at h6
  exact absurd h6 (by decide)
/-- A number has a prime among its divisors that goes into it at most as often as its root. -/
theorem least {p : Nat} (hp : 1 < p) : ∃ q, IsP q ∧ q ∣ p ∧ (q * q ≤ p ∨ q = p) := by
  have ex : ∃ q, 1 < q ∧ q ∣ p ∧ ∀ d, 1 < d → d < q → ¬d ∣ p := by
    have : ∀ n, (∀ d, 1 < d → d < n → ¬d ∣ p) ∨ ∃ q, 1 < q ∧ q ∣ p ∧ ∀ d, 1 < d → d < q → ¬d ∣ p := by
      intro n
      induction n with
      | zero => exact .inl fun d _ h => absurd h (Nat.not_lt_zero _)
      | succ n ih =>
        rcases ih with h | h
        · by_cases h1 : 1 < n ∧ n ∣ p
          · exact .inr ⟨n, h1.1, h1.2, h⟩
          · refine .inl fun d hd hl => ?_
            by_cases e : d = n
            · subst e; exact fun g => h1 ⟨hd, g⟩
            · exact h d hd (by omega)
        · exact .inr h
    rcases this (p + 1) with h | h
    · exact absurd (Nat.dvd_refl p) (h p hp (by omega))
    · exact h
  obtain ⟨q, h1, h2, h3⟩ := ex
  refine ⟨q, isP_of h1 fun d hd => ?_, h2, ?_⟩
  · by_cases h : d = 1
    · exact .inl h
    · have h0 : d ≠ 0 := fun e => by rw [e] at hd; have := Nat.eq_zero_of_zero_dvd hd; omega
      have hle := Nat.le_of_dvd (by omega) hd
      by_cases e : d = q
      · exact .inr e
      · exact absurd (Nat.dvd_trans hd h2) (h3 d (by omega) (by omega))
  · obtain ⟨c, hc⟩ := h2
    by_cases h : c ≤ 1
    · have : c = 1 := by
        rcases Nat.eq_zero_or_pos c with g | g
        · rw [g] at hc; omega
        · omega
      right; rw [hc, this, Nat.mul_one]
    · by_cases g : c < q
      · exact absurd ⟨q, by rw [hc, Nat.mul_comm]⟩ (h3 c (by omega) g)
      · left
        have := Nat.mul_le_mul_left q (show q ≤ c by omega)
        omega
end Go.Proofs.Ytdeihgcgglhhcaa.V
end
section
/- Plain: powers by squaring, in the kernel. -/
set_option linter.unusedVariables false
namespace Go.Proofs.Ytdeihgcgglhhcaa.V
/-- A number that is reckoned first. -/
def fz {α : Type} (n : Nat) (k : Nat → α) : α := match n with | 0 => k 0 | m + 1 => k (m + 1)
theorem fz_eq {α : Type} (n : Nat) (k : Nat → α) : fz n k = k n := by cases n <;> rfl
def pw (p a : Nat) : Nat → Nat → Nat
  | 0, _ => 1
  | f + 1, n => fz (pw p a f (n / 2)) fun x => fz (n % 2) fun | 0 => x * x % p | _ => x * x % p * a % p
theorem pw_eq (p a : Nat) (hp : 1 < p) : ∀ f n, n < 2 ^ f → pw p a f n = a ^ n % p
  | 0, n, h => by
    have : n = 0 := by rw [Nat.pow_zero] at h; omega
    subst this
    rw [Nat.pow_zero, Nat.mod_eq_of_lt hp]
    rfl
  | f + 1, n, h => by
    have ih := pw_eq p a hp f (n / 2) (by rw [Nat.pow_succ] at h; omega)
    rw [pw, fz_eq, fz_eq, ih]
    have e : n = n / 2 + n / 2 + n % 2 := by omega
    have v2 : a ^ (n / 2) % p * (a ^ (n / 2) % p) % p = a ^ (n / 2 + n / 2) % p := by
      rw [Nat.pow_add, ← Nat.mul_mod]
    rcases Nat.mod_two_eq_zero_or_one n with h0 | h0
    · rw [h0]
      show _ % p = _
      rw [v2]
      conv => rhs; rw [e, h0]
      rfl
    · rw [h0]
      show _ % p * a % p = _
      rw [v2]
      conv => rhs; rw [e, h0, Nat.pow_succ]
      rw [Nat.mod_mul_mod]
end Go.Proofs.Ytdeihgcgglhhcaa.V
end
section
/- Plain: p256 is a prime. -/
set_option linter.unusedVariables false
namespace Go.Proofs.Ytdeihgcgglhhcaa.V
def nod (r : Nat) : Nat → Bool
  | 0 => true
  | n + 1 => match r % (n + 2) with | 0 => false | _ => nod r n
theorem nod_spec {r : Nat} : ∀ s, nod r s = true → ∀ d, 2 ≤ d → d ≤ s + 1 → ¬d ∣ r
  | 0, _, d, h1, h2 => by omega
  | s + 1, h, d, h1, h2 => by
    rw [nod] at h
    by_cases e : d = s + 2
    · subst e
      intro g
      rw [Nat.mod_eq_zero_of_dvd g] at h
      exact absurd h Bool.false_ne_true
    · refine nod_spec s ?_ d h1 (by omega)
      revert h
      split
      · intro h; exact absurd h Bool.false_ne_true
      · exact id
theorem sprime {r : Nat} (s : Nat) (h1 : 1 < r) (h : r < (s + 1) * (s + 1)) (hn : nod r s = true) : ∀ t, t ∣ r ^ (0 + 1) → t = 1 ∨ r ∣ t := by
  intro t ht
  rw [Nat.zero_add, Nat.pow_one] at ht
  obtain ⟨c, hc⟩ := ht
  by_cases e1 : t = 1
  · exact .inl e1
  right
  have t0 : t ≠ 0 := fun e => by rw [e, Nat.zero_mul] at hc; omega
  have c0 : c ≠ 0 := fun e => by rw [e, Nat.mul_zero] at hc; omega
  by_cases ec : c = 1
  · exact ⟨1, by rw [hc, ec, Nat.mul_one, Nat.mul_one]⟩
  by_cases hl : t ≤ s + 1
  · exact absurd ⟨c, hc⟩ (nod_spec s hn t (by omega) hl)
  by_cases hl2 : c ≤ s + 1
  · exact absurd ⟨t, by rw [hc, Nat.mul_comm]⟩ (nod_spec s hn c (by omega) hl2)
  have := Nat.mul_le_mul (show s + 1 ≤ t by omega) (show s + 1 ≤ c by omega)
  omega
theorem pA_of {a n A : Nat} (h : pw p256 a 256 n = A) (hn : n < 115792089237316195423570985008687907853269984665640564039457584007913129639936) : pwm p256 a n = A := by
  rw [← h]
  exact (pw_eq p256 a (by decide) 256 n hn).symm
theorem p256_one : pwm p256 6 (p256 - 1) = 1 := pA_of (by decide +kernel) (by decide)
theorem pA2 : pwm p256 6 (2 ^ 0 * 57896044605178124381348723474703786765043071707645157097766815654433548926975) = 115792089210356248762697446949407573530086143415290314195533631308867097853950 := pA_of (by decide +kernel) (by decide)
theorem po2 {q : Nat} (hq : IsP q) (hqp : q ∣ p256) : 2 ^ (0 + 1) ∣ q - 1 :=
  pock (p := p256) (a := 6) (r := 2) (e := 0) (m := 57896044605178124381348723474703786765043071707645157097766815654433548926975) (A := 115792089210356248762697446949407573530086143415290314195533631308867097853950) (i := 57896044605178124381348723474703786765043071707645157097766815654433548926975) hq hqp (by decide) ((fun t ht => (by decide : ∀ t, t < 3 → t ∣ 2 ^ (0 + 1) → t = 1 ∨ 2 ∣ t) t (Nat.lt_succ_of_le (Nat.le_of_dvd (by decide) ht)) ht)) (by decide) (by decide) p256_one pA2 (by decide) (by decide)
theorem pA3 : pwm p256 6 (3 ^ 0 * 38597363070118749587565815649802524510028714471763438065177877102955699284650) = 35023605962199012655950408426974944573707350271027821222272152018745053261006 := pA_of (by decide +kernel) (by decide)
theorem po3 {q : Nat} (hq : IsP q) (hqp : q ∣ p256) : 3 ^ (0 + 1) ∣ q - 1 :=
  pock (p := p256) (a := 6) (r := 3) (e := 0) (m := 38597363070118749587565815649802524510028714471763438065177877102955699284650) (A := 35023605962199012655950408426974944573707350271027821222272152018745053261006) (i := 65520190819504494956481495157280067495488312186517602389598370199663047482298) hq hqp (by decide) (sprime 1 (by decide) (by decide) (by decide +kernel)) (by decide) (by decide) p256_one pA3 (by decide) (by decide)
theorem pA5 : pwm p256 6 (5 ^ 1 * 4631683568414249950507897877976302941203445736611612567821345252354683914158) = 6229376481089818046009298593172269900623949992504136305657492441987309054734 := pA_of (by decide +kernel) (by decide)
theorem po5 {q : Nat} (hq : IsP q) (hqp : q ∣ p256) : 5 ^ (1 + 1) ∣ q - 1 :=
  pock (p := p256) (a := 6) (r := 5) (e := 1) (m := 4631683568414249950507897877976302941203445736611612567821345252354683914158) (A := 6229376481089818046009298593172269900623949992504136305657492441987309054734) (i := 80690749226958292136928281572659226581544325189742454983118858713328978162424) hq hqp (by decide) ((fun t ht => (by decide : ∀ t, t < 26 → t ∣ 5 ^ (1 + 1) → t = 1 ∨ 5 ∣ t) t (Nat.lt_succ_of_le (Nat.le_of_dvd (by decide) ht)) ht)) (by decide) (by decide) p256_one pA5 (by decide) (by decide)
theorem pA17 : pwm p256 6 (17 ^ 0 * 6811299365315073456629261585259269031181537847958253776207860665227476344350) = 2134607866216034886983661339381351782330682792970743088143795280383550005858 := pA_of (by decide +kernel) (by decide)
theorem po17 {q : Nat} (hq : IsP q) (hqp : q ∣ p256) : 17 ^ (0 + 1) ∣ q - 1 :=
  pock (p := p256) (a := 6) (r := 17) (e := 0) (m := 6811299365315073456629261585259269031181537847958253776207860665227476344350) (A := 2134607866216034886983661339381351782330682792970743088143795280383550005858) (i := 92041846166295002407334792053122314874183182843169561144451371368666390726342) hq hqp (by decide) (sprime 4 (by decide) (by decide) (by decide +kernel)) (by decide) (by decide) p256_one pA17 (by decide) (by decide)
theorem pA257 : pwm p256 6 (257 ^ 0 * 450552876304888127481313023149445811401113398503075152511804012874969252350) = 94784035371912852912874182022529621622294755194336741774199288822185853816770 := pA_of (by decide +kernel) (by decide)
theorem po257 {q : Nat} (hq : IsP q) (hqp : q ∣ p256) : 257 ^ (0 + 1) ∣ q - 1 :=
  pock (p := p256) (a := 6) (r := 257) (e := 0) (m := 450552876304888127481313023149445811401113398503075152511804012874969252350) (A := 94784035371912852912874182022529621622294755194336741774199288822185853816770) (i := 69766497166607040286643710745186634538274727766378270967629057831232079444301) hq hqp (by decide) (sprime 16 (by decide) (by decide) (by decide +kernel)) (by decide) (by decide) p256_one pA257 (by decide) (by decide)
theorem pA641 : pwm p256 6 (641 ^ 0 * 180642884883551090113412553743225543728683531069095653971191312494332445950) = 73772617749849487604415205117597022814228633036826951038419219002741772834126 := pA_of (by decide +kernel) (by decide)
theorem po641 {q : Nat} (hq : IsP q) (hqp : q ∣ p256) : 641 ^ (0 + 1) ∣ q - 1 :=
  pock (p := p256) (a := 6) (r := 641) (e := 0) (m := 180642884883551090113412553743225543728683531069095653971191312494332445950) (A := 73772617749849487604415205117597022814228633036826951038419219002741772834126) (i := 74772103755818218670089827982646847413031436839115034403294163640490563655148) hq hqp (by decide) (sprime 25 (by decide) (by decide) (by decide +kernel)) (by decide) (by decide) p256_one pA641 (by decide) (by decide)
theorem pA1531 : pwm p256 6 (1531 ^ 0 * 75631671593962278747679586511696651554595782766355528540518374466928215450) = 87083230532117752554147991845578870696698760857476716249127647529451443651015 := pA_of (by decide +kernel) (by decide)
theorem po1531 {q : Nat} (hq : IsP q) (hqp : q ∣ p256) : 1531 ^ (0 + 1) ∣ q - 1 :=
  pock (p := p256) (a := 6) (r := 1531) (e := 0) (m := 75631671593962278747679586511696651554595782766355528540518374466928215450) (A := 87083230532117752554147991845578870696698760857476716249127647529451443651015) (i := 110960687477210085667261709325625768645419867273875531072321427107986396540074) hq hqp (by decide) (sprime 39 (by decide) (by decide) (by decide +kernel)) (by decide) (by decide) p256_one pA1531 (by decide) (by decide)
theorem pA65537 : pwm p256 6 (65537 ^ 0 * 1766820104831717179039282343552612623862644665079120408250814521703268350) = 108225251348322012978461859646483553569711948028822648349432096442594643790199 := pA_of (by decide +kernel) (by decide)
theorem po65537 {q : Nat} (hq : IsP q) (hqp : q ∣ p256) : 65537 ^ (0 + 1) ∣ q - 1 :=
  pock (p := p256) (a := 6) (r := 65537) (e := 0) (m := 1766820104831717179039282343552612623862644665079120408250814521703268350) (A := 108225251348322012978461859646483553569711948028822648349432096442594643790199) (i := 54756458365037719170642323232889215780665923599874951905459212172127696928051) hq hqp (by decide) (sprime 256 (by decide) (by decide) (by decide +kernel)) (by decide) (by decide) p256_one pA65537 (by decide) (by decide)
theorem pA490463 : pwm p256 6 (490463 ^ 0 * 236087307728322521296606363679640612095277612001904963668072069266931650) = 47551681459734928383308379463919739026341324778493777690629929511110838017908 := pA_of (by decide +kernel) (by decide)
theorem po490463 {q : Nat} (hq : IsP q) (hqp : q ∣ p256) : 490463 ^ (0 + 1) ∣ q - 1 :=
  pock (p := p256) (a := 6) (r := 490463) (e := 0) (m := 236087307728322521296606363679640612095277612001904963668072069266931650) (A := 47551681459734928383308379463919739026341324778493777690629929511110838017908) (i := 93040020571247196733279262913042878709850400282856535724574362570037006129714) hq hqp (by decide) (sprime 700 (by decide) (by decide) (by decide +kernel)) (by decide) (by decide) p256_one pA490463 (by decide) (by decide)
theorem pA6700417 : pwm p256 6 (6700417 ^ 0 * 17281325805596315686426299579475064541518258253969911752586985453124350) = 86900396401832178961235217232859237981114935325153096234781032859889316105536 := pA_of (by decide +kernel) (by decide)
theorem po6700417 {q : Nat} (hq : IsP q) (hqp : q ∣ p256) : 6700417 ^ (0 + 1) ∣ q - 1 :=
  pock (p := p256) (a := 6) (r := 6700417) (e := 0) (m := 17281325805596315686426299579475064541518258253969911752586985453124350) (A := 86900396401832178961235217232859237981114935325153096234781032859889316105536) (i := 8644609663429077098308511555895993103786583909428360811596743371205054351080) hq hqp (by decide) (sprime 2588 (by decide) (by decide) (by decide +kernel)) (by decide) (by decide) p256_one pA6700417 (by decide) (by decide)
theorem poF {q : Nat} (hq : IsP q) (hqp : q ∣ p256) : 138516389665330497628477975950 ∣ q - 1 := by
  have a2 := po2 hq hqp
  have a3 : 6 ∣ q - 1 := Nat.Coprime.mul_dvd_of_dvd_of_dvd (m := 2) (n := 3 ^ (0 + 1)) (by decide) a2 (po3 hq hqp)
  have a5 : 150 ∣ q - 1 := Nat.Coprime.mul_dvd_of_dvd_of_dvd (m := 6) (n := 5 ^ (1 + 1)) (by decide) a3 (po5 hq hqp)
  have a17 : 2550 ∣ q - 1 := Nat.Coprime.mul_dvd_of_dvd_of_dvd (m := 150) (n := 17 ^ (0 + 1)) (by decide) a5 (po17 hq hqp)
  have a257 : 655350 ∣ q - 1 := Nat.Coprime.mul_dvd_of_dvd_of_dvd (m := 2550) (n := 257 ^ (0 + 1)) (by decide) a17 (po257 hq hqp)
  have a641 : 420079350 ∣ q - 1 := Nat.Coprime.mul_dvd_of_dvd_of_dvd (m := 655350) (n := 641 ^ (0 + 1)) (by decide) a257 (po641 hq hqp)
  have a1531 : 643141484850 ∣ q - 1 := Nat.Coprime.mul_dvd_of_dvd_of_dvd (m := 420079350) (n := 1531 ^ (0 + 1)) (by decide) a641 (po1531 hq hqp)
  have a65537 : 42149563492614450 ∣ q - 1 := Nat.Coprime.mul_dvd_of_dvd_of_dvd (m := 643141484850) (n := 65537 ^ (0 + 1)) (by decide) a1531 (po65537 hq hqp)
  have a490463 : 20672801359278160990350 ∣ q - 1 := Nat.Coprime.mul_dvd_of_dvd_of_dvd (m := 42149563492614450) (n := 490463 ^ (0 + 1)) (by decide) a65537 (po490463 hq hqp)
  have a6700417 : 138516389665330497628477975950 ∣ q - 1 := Nat.Coprime.mul_dvd_of_dvd_of_dvd (m := 20672801359278160990350) (n := 6700417 ^ (0 + 1)) (by decide) a490463 (po6700417 hq hqp)
  exact a6700417
theorem split_no {u v F K M S s : Nat} (hu : 1 ≤ u) (hv : 1 ≤ v) (hF : 0 < F) (h : (u * F + 1) * (v * F + 1) = F * K + 1) (hK : K < F * F) (hM : K = F * M + S) (hS : S < F) (hS0 : 0 < S)
    (h1 : s * s + 4 * M < S * S) (h2 : S * S < (s + 1) * (s + 1) + 4 * M) : False := by
  have e1 : F * (u * v * F + (u + v)) + 1 = F * K + 1 := by rw [← h]; grind
  have e2 : u * v * F + (u + v) = K := Nat.eq_of_mul_eq_mul_left hF (by omega)
  have l1 : u * v < F := by
    refine Decidable.byContradiction fun hn => ?_
    have := Nat.mul_le_mul_right F (show F ≤ u * v by omega)
    omega
  have l2 : u + v ≤ u * v + 1 := by
    obtain ⟨a, rfl⟩ : ∃ a, u = a + 1 := ⟨u - 1, by omega⟩
    obtain ⟨b, rfl⟩ : ∃ b, v = b + 1 := ⟨v - 1, by omega⟩
    have : (a + 1) * (b + 1) = a * b + a + b + 1 := by grind
    omega
  have e3 : (u * v * F + (u + v)) % F = (F * M + S) % F := by rw [e2, hM]
  rw [Nat.mul_add_mod, Nat.mod_eq_of_lt hS, Nat.mul_comm (u * v), Nat.mul_add_mod] at e3
  have e4 : u + v = S := by
    by_cases hc : u + v < F
    · rw [Nat.mod_eq_of_lt hc] at e3; exact e3
    · have : u + v = F := by omega
      rw [this, Nat.mod_self] at e3; omega
  have e5 : u * v = M := by
    have : F * (u * v) = F * M := by rw [Nat.mul_comm F (u * v)]; omega
    exact Nat.eq_of_mul_eq_mul_left hF this
  have key : ∀ a b, a ≤ b → a + b = S → a * b = M → False := by
    intro a b hab ea eb
    obtain ⟨d, rfl⟩ : ∃ d, b = a + d := ⟨b - a, by omega⟩
    have e6 : S * S = 4 * M + d * d := by rw [← ea, ← eb]; grind
    by_cases hd : d ≤ s
    · have := Nat.mul_le_mul hd hd; omega
    · have := Nat.mul_le_mul (show s + 1 ≤ d by omega) (show s + 1 ≤ d by omega); omega
  rcases Nat.le_total u v with g | g
  · exact key u v g e4 e5
  · exact key v u g (by omega) (by rw [Nat.mul_comm]; exact e5)
theorem prime256 : IsP p256 := by
  obtain ⟨q, hq, hqp, hle⟩ := least (p := p256) (by decide)
  rcases hle with hle | rfl
  · exfalso
    obtain ⟨u, hu⟩ := poF hq hqp
    obtain ⟨c, hc⟩ := hqp
    have hq1 := hq.1
    have eq1 : q = u * 138516389665330497628477975950 + 1 := by omega
    have hcq : q ≤ c := by
      refine Nat.le_of_mul_le_mul_left (c := q) ?_ (by omega)
      rw [← hc]; exact hle
    have pe : p256 = 138516389665330497628477975950 * 835945042244614951780389953367877943453916927241 + 1 := by decide
    have em : c % 138516389665330497628477975950 = 1 := by
      have e : 138516389665330497628477975950 * (u * c) + c = 138516389665330497628477975950 * 835945042244614951780389953367877943453916927241 + 1 := by rw [← pe, hc, eq1]; grind
      have := congrArg (· % 138516389665330497628477975950) e
      simp only [Nat.mul_add_mod] at this
      exact this
    obtain ⟨v, ev⟩ : ∃ v, c = v * 138516389665330497628477975950 + 1 := ⟨c / 138516389665330497628477975950, by omega⟩
    refine split_no (u := u) (v := v) (F := 138516389665330497628477975950) (K := 835945042244614951780389953367877943453916927241) (M := 6034990113908845660) (S := 128950946036093660256175050241) (s := 128950946036093660256175050240) (by omega) (by omega) (by decide) ?_ (by decide) (by decide) (by decide) (by decide) (by decide) (by decide)
    rw [← pe, ← eq1, ← ev]; exact hc.symm
  · exact hq
theorem inv256_of (a : Fp) (ha : ¬a = 0) : finv a * a = 1 := inv_of prime256 a ha
end Go.Proofs.Ytdeihgcgglhhcaa.V
end
section
/- Plain: reckoning with polynomials in the kernel. -/
set_option linter.unusedVariables false
namespace Go.Proofs.Ytdeihgcgglhhcaa.V
/-- What can be reckoned. -/
structure Cmp where
  C : Type
  ad : C → C → C
  mu : C → C → C
  ne : C → C
  zz : C
  st : {β : Type} → C → (C → β) → β
  nul : C → Bool
def Cmp.su (A : Cmp) (a b : A.C) : A.C := A.ad a (A.ne b)
/-- What it stands for. -/
structure Evl (A : Cmp) where
  ev : A.C → Fp
  e_ad : ∀ a b, ev (A.ad a b) = ev a + ev b
  e_mu : ∀ a b, ev (A.mu a b) = ev a * ev b
  e_ne : ∀ a, ev (A.ne a) = 0 - ev a
  e_zz : ev A.zz = 0
  e_st : ∀ {β : Type} (a : A.C) (k : A.C → β), A.st a k = k a
  e_nul : ∀ a, A.nul a = true → ev a = 0
theorem Evl.e_su {A : Cmp} (E : Evl A) (a b : A.C) : E.ev (A.su a b) = E.ev a - E.ev b := by
  unfold Cmp.su
  rw [E.e_ad, E.e_ne]
  grind
/-- Numbers. -/
def fz' {β : Type} (n : Nat) (k : Nat → β) : β := match n with | 0 => k 0 | m + 1 => k (Nat.succ m)
def A0 : Cmp where
  C := Nat
  ad a b := (a + b) % p256
  mu a b := a * b % p256
  ne a := p256 - a % p256
  zz := 0
  st := fz'
  nul a := Nat.beq (a % p256) 0
theorem of_add (a b : Nat) : of (a + b) = of a + of b := by
  refine Fin.ext ?_
  rw [Fin.val_add, of_val, of_val, of_val, ← Nat.add_mod]
theorem of_mul (a b : Nat) : of (a * b) = of a * of b := by
  refine Fin.ext ?_
  rw [Fin.val_mul, of_val, of_val, of_val, ← Nat.mul_mod]
theorem of_mod (a : Nat) : of (a % p256) = of a := by
  refine Fin.ext ?_
  rw [of_val, of_val, Nat.mod_mod]
theorem of_zero : of 0 = 0 := rfl
theorem of_p : of p256 = 0 := by decide
theorem of_ne (a : Nat) : of (p256 - a % p256) = 0 - of a := by
  have h : of (p256 - a % p256) + of (a % p256) = 0 := by
    rw [← of_add, Nat.sub_add_cancel (Nat.le_of_lt (Nat.mod_lt _ p_pos)), of_p]
  rw [of_mod] at h
  grind
theorem fz'_eq {β : Type} (n : Nat) (k : Nat → β) : fz' n k = k n := by cases n <;> rfl
theorem nul0 (a : Nat) (h : Nat.beq (a % p256) 0 = true) : of a = 0 := by
  rw [← of_mod, Nat.eq_of_beq_eq_true h]
  rfl
theorem g0_s : (0 : Fp) = 0 - 0 := by decide
theorem g0_m (x : Fp) : x * 0 = 0 := Fin.ext (by rw [Fin.val_mul]; rfl)
theorem g0_m' (x : Fp) : 0 * x = 0 := Fin.ext (by rw [Fin.val_mul]; show 0 * x.val % p256 = 0; rw [Nat.zero_mul]; rfl)
theorem g0_x (x : Fp) : 0 + x * 0 = 0 := by rw [g0_m]; decide
theorem g0_y (y : Fp) : 0 + 0 * y = 0 := by rw [g0_m']; decide
theorem e0_ad (a b : Nat) : of ((a + b) % p256) = of a + of b := by rw [of_mod, of_add]
theorem e0_mu (a b : Nat) : of (a * b % p256) = of a * of b := by rw [of_mod, of_mul]
def E0 : Evl A0 where
  ev := of
  e_ad := e0_ad
  e_mu := e0_mu
  e_ne := of_ne
  e_zz := rfl
  e_st := fz'_eq
  e_nul := nul0
/-- Polynomials in one variable. -/
def padd (A : Cmp) : List A.C → List A.C → List A.C
  | [], m => m
  | a :: l, m => match m with
    | [] => a :: l
    | b :: m => A.ad a b :: padd A l m
def pscal (A : Cmp) (a : A.C) : List A.C → List A.C
  | [] => []
  | b :: l => A.mu a b :: pscal A a l
def pneg (A : Cmp) : List A.C → List A.C
  | [] => []
  | b :: l => A.ne b :: pneg A l
def pmul (A : Cmp) : List A.C → List A.C → List A.C
  | [], _ => []
  | a :: l, m => padd A (pscal A a m) (A.zz :: pmul A l m)
def pst (A : Cmp) {β : Type} : List A.C → (List A.C → β) → β
  | [], k => k []
  | a :: l, k => A.st a fun a' => pst A l fun l' => k (a' :: l')
def pnul (A : Cmp) : List A.C → Bool
  | [] => true
  | a :: l => match A.nul a with | true => pnul A l | false => false
def polyA (A : Cmp) : Cmp where
  C := List A.C
  ad := padd A
  mu := pmul A
  ne := pneg A
  zz := []
  st := pst A
  nul := pnul A
def pev {A : Cmp} (E : Evl A) (x : Fp) : List A.C → Fp
  | [] => 0
  | a :: l => E.ev a + x * pev E x l
section
variable {A : Cmp} (E : Evl A) (x : Fp)
theorem pev_add : ∀ l m : List A.C, pev E x (padd A l m) = pev E x l + pev E x m
  | [], m => by rw [padd, pev]; grind
  | a :: l, [] => by rw [padd, pev, pev]; grind
  | a :: l, b :: m => by
    show E.ev (A.ad a b) + x * pev E x (padd A l m) = _
    rw [pev_add l m, E.e_ad, pev, pev]
    grind
theorem pev_scal (a : A.C) : ∀ l : List A.C, pev E x (pscal A a l) = E.ev a * pev E x l
  | [] => by rw [pscal, pev]; grind
  | b :: l => by rw [pscal, pev, pev_scal a l, E.e_mu, pev]; grind
theorem pev_neg : ∀ l : List A.C, pev E x (pneg A l) = 0 - pev E x l
  | [] => by rw [pneg, pev]; exact g0_s
  | b :: l => by rw [pneg, pev, pev_neg l, E.e_ne, pev]; grind
theorem pev_mul : ∀ l m : List A.C, pev E x (pmul A l m) = pev E x l * pev E x m
  | [], m => by rw [pmul, pev]; grind
  | a :: l, m => by rw [pmul, pev_add, pev_scal, pev, pev_mul l m, E.e_zz, pev]; grind
include E in
theorem pst_eq {β : Type} : ∀ (l : List A.C) (k : List A.C → β), pst A l k = k l
  | [], k => rfl
  | a :: l, k => by rw [pst, E.e_st, pst_eq l]
theorem pnul_ev : ∀ l : List A.C, pnul A l = true → pev E x l = 0
  | [], _ => rfl
  | a :: l, h => by
    rw [pnul] at h
    split at h
    · next h1 => rw [pev, E.e_nul a h1, pnul_ev l h]; exact g0_x x
    · exact absurd h (by decide)
end
def polyE {A : Cmp} (E : Evl A) (x : Fp) : Evl (polyA A) where
  ev := pev E x
  e_ad := pev_add E x
  e_mu := pev_mul E x
  e_ne := pev_neg E x
  e_zz := rfl
  e_st := fun l k => pst_eq E l k
  e_nul := pnul_ev E x
/-- A number and another one times y, where y y is f. -/
def quadA (A : Cmp) (f : A.C) : Cmp where
  C := A.C × A.C
  ad a b := (A.ad a.1 b.1, A.ad a.2 b.2)
  mu a b := A.st (A.mu a.2 b.2) fun t => (A.ad (A.mu a.1 b.1) (A.mu f t), A.ad (A.mu a.1 b.2) (A.mu a.2 b.1))
  ne a := (A.ne a.1, A.ne a.2)
  zz := (A.zz, A.zz)
  st a k := A.st a.1 fun u => A.st a.2 fun v => k (u, v)
  nul a := match A.nul a.1 with | true => A.nul a.2 | false => false
def quadE {A : Cmp} (E : Evl A) (f : A.C) (y : Fp) (h : y * y = E.ev f) : Evl (quadA A f) where
  ev a := E.ev a.1 + E.ev a.2 * y
  e_ad a b := by
    show E.ev (A.ad a.1 b.1) + E.ev (A.ad a.2 b.2) * y = _
    rw [E.e_ad, E.e_ad]; grind
  e_mu a b := by
    have e : (quadA A f).mu a b = (A.ad (A.mu a.1 b.1) (A.mu f (A.mu a.2 b.2)), A.ad (A.mu a.1 b.2) (A.mu a.2 b.1)) := E.e_st _ _
    rw [e]
    show E.ev (A.ad (A.mu a.1 b.1) (A.mu f (A.mu a.2 b.2))) + E.ev (A.ad (A.mu a.1 b.2) (A.mu a.2 b.1)) * y = _
    simp only [E.e_ad, E.e_mu]
    grind
  e_ne a := by
    show E.ev (A.ne a.1) + E.ev (A.ne a.2) * y = _
    rw [E.e_ne, E.e_ne]; grind
  e_zz := by
    show E.ev A.zz + E.ev A.zz * y = 0
    rw [E.e_zz]; exact g0_y y
  e_st a k := by
    show A.st a.1 (fun u => A.st a.2 fun v => k (u, v)) = _
    rw [E.e_st, E.e_st]; rfl
  e_nul a h := by
    have h : (match A.nul a.1 with | true => A.nul a.2 | false => false) = true := h
    show E.ev a.1 + E.ev a.2 * y = 0
    split at h
    · next h1 => rw [E.e_nul _ h1, E.e_nul _ h]; exact g0_y y
    · exact absurd h (by decide)
/-- The complete sum. -/
def gpl (A : Cmp) (b : A.C) (P Q : A.C × A.C × A.C) : A.C × A.C × A.C :=
  A.st (A.mu P.1 Q.1) fun xx => A.st (A.mu P.2.1 Q.2.1) fun yy => A.st (A.mu P.2.2 Q.2.2) fun zz =>
  A.st (A.ad (A.mu P.1 Q.2.1) (A.mu Q.1 P.2.1)) fun xy => A.st (A.ad (A.mu P.2.1 Q.2.2) (A.mu Q.2.1 P.2.2)) fun yz => A.st (A.ad (A.mu P.1 Q.2.2) (A.mu Q.1 P.2.2)) fun xz =>
  A.st (A.su xz (A.mu b zz)) fun u => A.st (A.su (A.su (A.mu b xz) (A.ad (A.ad zz zz) zz)) xx) fun v => A.st (A.su xx zz) fun w =>
  A.st (A.ad (A.ad u u) u) fun u => A.st (A.ad (A.ad v v) v) fun v => A.st (A.ad (A.ad w w) w) fun w =>
  A.st (A.ad yy u) fun s => A.st (A.su yy u) fun d =>
  A.st (A.su (A.mu xy s) (A.mu yz v)) fun X => A.st (A.ad (A.mu s d) (A.mu w v)) fun Y => A.st (A.ad (A.mu yz d) (A.mu xy w)) fun Z => (X, Y, Z)
theorem gpl_ev {A : Cmp} (E : Evl A) (b : A.C) (P Q : A.C × A.C × A.C) : E.ev (gpl A b P Q).1 = cX (E.ev b) (E.ev P.1) (E.ev P.2.1) (E.ev P.2.2) (E.ev Q.1) (E.ev Q.2.1) (E.ev Q.2.2)
    ∧ E.ev (gpl A b P Q).2.1 = cY (E.ev b) (E.ev P.1) (E.ev P.2.1) (E.ev P.2.2) (E.ev Q.1) (E.ev Q.2.1) (E.ev Q.2.2)
    ∧ E.ev (gpl A b P Q).2.2 = cZ (E.ev b) (E.ev P.1) (E.ev P.2.1) (E.ev P.2.2) (E.ev Q.1) (E.ev Q.2.1) (E.ev Q.2.2) := by
  unfold gpl
  simp only [E.e_st]
  unfold cX cY cZ
  refine ⟨?_, ?_, ?_⟩ <;> simp only [E.e_ad, E.e_mu, E.e_su]
end Go.Proofs.Ytdeihgcgglhhcaa.V
end
section
/- Plain: the curve's cubic has no root; the field. -/
set_option linter.unusedVariables false
namespace Go.Proofs.Ytdeihgcgglhhcaa.V
abbrev T3 := Nat × Nat × Nat
def nco : Nat := 74733725485204106633371317169360305120971702399296588640698374994827630452660
/-- A product modulo the cubic. -/
def cmul (a b : T3) : T3 :=
  fz' ((a.2.1 * b.2.2 + a.2.2 * b.2.1) % p256) fun c3 => fz' (a.2.2 * b.2.2 % p256) fun c4 =>
  fz' ((a.1 * b.1 + nco * c3) % p256) fun r0 => fz' ((a.1 * b.2.1 + a.2.1 * b.1 + 3 * c3 + nco * c4) % p256) fun r1 =>
  fz' ((a.1 * b.2.2 + a.2.1 * b.2.1 + a.2.2 * b.1 + 3 * c4) % p256) fun r2 => (r0, r1, r2)
def ev3 (x : Fp) (t : T3) : Fp := of t.1 + of t.2.1 * x + of t.2.2 * (x * x)
theorem ev3_1 (x : Fp) : ev3 x (1, 0, 0) = 1 := by
  show of 1 + of 0 * x + of 0 * (x * x) = 1
  rw [show of 0 = 0 from rfl, g0_m', g0_m']
  decide
theorem ev3_x (x : Fp) : ev3 x (0, 1, 0) = x := by
  show of 0 + of 1 * x + of 0 * (x * x) = x
  rw [show of 0 = 0 from rfl, show of 1 = 1 from rfl, g0_m']
  have e : (0 : Fp) + 1 * x + 0 = x + 0 := by grind
  rw [e, Fin.add_zero]
theorem of_nco : of nco = 0 - of co256 := by decide
theorem of_three : of 3 = 3 := by decide
theorem ev_cmul {x : Fp} (h : x * x * x - (x + x + x) + of co256 = 0) (a b : T3) : ev3 x (cmul a b) = ev3 x a * ev3 x b := by
  unfold cmul
  simp only [fz'_eq]
  unfold ev3
  simp only [of_mod, of_add, of_mul, of_nco, of_three]
  obtain ⟨a0, a1, a2⟩ := a
  obtain ⟨b0, b1, b2⟩ := b
  simp only []
  generalize of a0 = a0
  generalize of a1 = a1
  generalize of a2 = a2
  generalize of b0 = b0
  generalize of b1 = b1
  generalize of b2 = b2
  generalize of co256 = b at *
  grind
def csq (t : T3) : T3 := match t with | (a, b, c) => cmul (a, b, c) (a, b, c)
def cpow : Nat → Nat → T3
  | 0, _ => (1, 0, 0)
  | f + 1, n => match csq (cpow f (n / 2)) with
    | (a, b, c) => match n % 2 with | 0 => (a, b, c) | _ => cmul (a, b, c) (0, 1, 0)
theorem ev_cpow {x : Fp} (h : x * x * x - (x + x + x) + of co256 = 0) : ∀ f n, n < 2 ^ f → ev3 x (cpow f n) = fpow x n
  | 0, n, hn => by
    have : n = 0 := by rw [Nat.pow_zero] at hn; omega
    subst this
    rw [fpow_zero, cpow, ev3_1]
  | f + 1, n, hn => by
    have ih := ev_cpow h f (n / 2) (by rw [Nat.pow_succ] at hn; omega)
    have sq : ev3 x (csq (cpow f (n / 2))) = fpow x (n / 2) * fpow x (n / 2) := by
      show ev3 x (cmul (cpow f (n / 2)) (cpow f (n / 2))) = _
      rw [ev_cmul h, ih]
    rw [fpow_step x n _ rfl, cpow, ← sq]
    generalize csq (cpow f (n / 2)) = t
    obtain ⟨a, b, c⟩ := t
    rcases Nat.mod_two_eq_zero_or_one n with h0 | h0
    · rw [h0]; rfl
    · rw [h0]
      show ev3 x (cmul (a, b, c) (0, 1, 0)) = _
      rw [ev_cmul h, if_pos rfl, ev3_x]
theorem cpow_p : cpow 256 p256 = (66434390973925144466073271287821796038003695194169110494110089305650096453661, 12402202686218762177567235911775779164004716598278868847786114277539554646092, 24678849118215552148312087830792888746041224110560601850711771001608500700145) := by decide +kernel
theorem cbez : cmul (76626890310466861426869089647039036757962535851890885406097439786770458211455, 74462945259064871768191128030512052509059297803194871526163573358218695456204, 34768139465301476436978405170953382516735956999154666452188405812258086013549) (66434390973925144466073271287821796038003695194169110494110089305650096453661, 12402202686218762177567235911775779164004716598278868847786114277539554646091, 24678849118215552148312087830792888746041224110560601850711771001608500700145) = (1, 0, 0) := by decide +kernel
theorem fpow_p (x : Fp) : fpow x p256 = x := by
  refine Fin.ext ?_
  rw [fpow_val, fermat prime256, Nat.mod_eq_of_lt x.isLt]
theorem no_root (x : Fp) : ¬x * x * x - (x + x + x) + of co256 = 0 := by
  intro h
  have e := ev_cpow h 256 p256 (by decide)
  rw [cpow_p, fpow_p] at e
  have e2 := congrArg (ev3 x) cbez
  rw [ev_cmul h] at e2
  have e3 : ev3 x (66434390973925144466073271287821796038003695194169110494110089305650096453661, 12402202686218762177567235911775779164004716598278868847786114277539554646091, 24678849118215552148312087830792888746041224110560601850711771001608500700145) = ev3 x (66434390973925144466073271287821796038003695194169110494110089305650096453661, 12402202686218762177567235911775779164004716598278868847786114277539554646092, 24678849118215552148312087830792888746041224110560601850711771001608500700145) - x := by
    have : of 12402202686218762177567235911775779164004716598278868847786114277539554646091 = of 12402202686218762177567235911775779164004716598278868847786114277539554646092 - 1 := by decide
    unfold ev3
    simp only [] at this ⊢
    rw [this]
    grind
  rw [e3, e] at e2
  rw [ev3_1] at e2
  generalize ev3 x (76626890310466861426869089647039036757962535851890885406097439786770458211455, 74462945259064871768191128030512052509059297803194871526163573358218695456204, 34768139465301476436978405170953382516735956999154666452188405812258086013549) = y at e2
  have : (0 : Fp) = 1 := by grind
  exact absurd this (by decide)
theorem fld : Fld := ⟨inv256_of, no_root⟩
end Go.Proofs.Ytdeihgcgglhhcaa.V
end
section
/- Plain: the sums of three points, reckoned in the kernel. -/
set_option linter.unusedVariables false
set_option linter.unusedSimpArgs false
namespace Go.Proofs.Ytdeihgcgglhhcaa.V
abbrev L1 : Cmp := polyA A0
def f1 : L1.C := ([co256, p256 - 3, 0, 1] : List Nat)
abbrev L2 : Cmp := quadA L1 f1
abbrev T2 := List Nat × List Nat
abbrev L3' : Cmp := polyA L2
def f2 : L3'.C := ([([co256], []), ([p256 - 3], []), ([], []), ([1], [])] : List T2)
abbrev L4 : Cmp := quadA L3' f2
abbrev T4 := List T2 × List T2
def l4c (n : Nat) : L4.C := (([([n], [])], []) : T4)
def l4x1 : L4.C := (([([0, 1], [])], []) : T4)
def l4y1 : L4.C := (([([], [1])], []) : T4)
def l4x2 : L4.C := (([([], []), ([1], [])], []) : T4)
def l4y2 : L4.C := (([], [([1], [])]) : T4)
def l4P : L4.C × L4.C × L4.C := (l4x1, l4y1, l4c 1)
def l4Q : L4.C × L4.C × L4.C := (l4x2, l4y2, l4c 1)
def l4G : L4.C × L4.C × L4.C := (l4c gx256, l4c gy256, l4c 1)
def l4b : L4.C := l4c co256
/-- A triple that is reckoned first. -/
def fT {α β : Type} (t : α × α × α) (k : α × α × α → β) : β := match t with | (a, b, c) => k (a, b, c)
theorem fT_eq {α β : Type} (t : α × α × α) (k : α × α × α → β) : fT t k = k t := rfl
def ascA (A : Cmp) (b : A.C) (P Q B : A.C × A.C × A.C) : Bool :=
  fT (gpl A b P Q) fun U => fT (gpl A b U B) fun V => fT (gpl A b Q B) fun W => fT (gpl A b P W) fun R =>
  A.nul (A.su (A.mu V.1 R.2.2) (A.mu R.1 V.2.2)) && A.nul (A.su (A.mu V.2.1 R.2.2) (A.mu R.2.1 V.2.2))
theorem asc_true : ascA L4 l4b l4P l4Q l4G = true := by kernel_rfl
end Go.Proofs.Ytdeihgcgglhhcaa.V
end
section
/- Plain: the sum of points is the same in any brackets, where the third one is the base. -/
set_option linter.unusedVariables false
set_option linter.unusedSimpArgs false
namespace Go.Proofs.Ytdeihgcgglhhcaa.V
def evT {A : Cmp} (E : Evl A) (T : A.C × A.C × A.C) : Fp × Fp × Fp := (E.ev T.1, E.ev T.2.1, E.ev T.2.2)
/-- The complete sum of places. -/
def cP (P Q : Fp × Fp × Fp) : Fp × Fp × Fp := (cX kb P.1 P.2.1 P.2.2 Q.1 Q.2.1 Q.2.2, cY kb P.1 P.2.1 P.2.2 Q.1 Q.2.1 Q.2.2, cZ kb P.1 P.2.1 P.2.2 Q.1 Q.2.1 Q.2.2)
theorem evT_gpl {A : Cmp} (E : Evl A) (b : A.C) (hb : E.ev b = kb) (P Q : A.C × A.C × A.C) : evT E (gpl A b P Q) = cP (evT E P) (evT E Q) := by
  obtain ⟨h1, h2, h3⟩ := gpl_ev E b P Q
  unfold evT cP
  rw [h1, h2, h3, hb]
section
variable {x1 y1 x2 y2 : Fp}
/-- Less three. -/
def m3 : Fp := of (p256 - 3)
theorem m3_3 : m3 + (1 + 1 + 1) = 0 := by decide
theorem ev_cub {b x y : Fp} (h : Cv b x y) : y * y = b + x * (m3 + x * (0 + x * (1 + x * 0))) := by
  unfold Cv at h
  have e := m3_3
  generalize m3 = m at *
  rw [h, g0_m, Fin.add_zero, Fin.mul_one, Fin.zero_add]
  have : x * (m + (1 + 1 + 1)) = 0 := by rw [e, g0_m]
  clear h e
  grind
theorem of_1 : of 1 = 1 := rfl
def Ev1 (x1 : Fp) : Evl L1 := polyE E0 x1
theorem ev_f1 (x1 : Fp) : (Ev1 x1).ev f1 = kb + x1 * (m3 + x1 * (0 + x1 * (1 + x1 * 0))) := by
  show of co256 + x1 * (of (p256 - 3) + x1 * (of 0 + x1 * (of 1 + x1 * 0))) = _
  rfl
def Ev2 (h1 : Cv kb x1 y1) : Evl L2 := quadE (Ev1 x1) f1 y1 (by rw [ev_f1]; exact ev_cub h1)
def Ev3 (h1 : Cv kb x1 y1) (x2 : Fp) : Evl L3' := polyE (Ev2 h1) x2
theorem ev_f2 (h1 : Cv kb x1 y1) (x2 : Fp) : (Ev3 h1 x2).ev f2 = kb + x2 * (m3 + x2 * (0 + x2 * (1 + x2 * 0))) := by
  show (of co256 + x1 * 0 + 0 * y1) + x2 * ((of (p256 - 3) + x1 * 0 + 0 * y1) + x2 * ((0 + 0 * y1) + x2 * ((of 1 + x1 * 0 + 0 * y1) + x2 * 0))) = _
  show _ = of co256 + x2 * (of (p256 - 3) + x2 * (0 + x2 * (1 + x2 * 0)))
  rw [of_1]
  simp only [g0_m, g0_m', Fin.add_zero]
def Ev4 (h1 : Cv kb x1 y1) (h2 : Cv kb x2 y2) : Evl L4 := quadE (Ev3 h1 x2) f2 y2 (by rw [ev_f2]; exact ev_cub h2)
variable (h1 : Cv kb x1 y1) (h2 : Cv kb x2 y2)
theorem ev_c (n : Nat) : (Ev4 h1 h2).ev (l4c n) = of n := by
  show ((of n + x1 * 0 + 0 * y1) + x2 * 0) + 0 * y2 = _
  simp only [g0_m, g0_m', Fin.add_zero]
theorem ev_x1 : (Ev4 h1 h2).ev l4x1 = x1 := by
  show ((of 0 + x1 * (of 1 + x1 * 0) + 0 * y1) + x2 * 0) + 0 * y2 = _
  rw [of_1, of_zero]
  simp only [g0_m, g0_m', Fin.add_zero, Fin.zero_add, Fin.mul_one]
theorem ev_y1 : (Ev4 h1 h2).ev l4y1 = y1 := by
  show ((0 + (of 1 + x1 * 0) * y1) + x2 * 0) + 0 * y2 = _
  rw [of_1]
  simp only [g0_m, g0_m', Fin.add_zero, Fin.zero_add, Fin.mul_one, Fin.one_mul]
theorem ev_x2 : (Ev4 h1 h2).ev l4x2 = x2 := by
  show ((0 + 0 * y1) + x2 * ((of 1 + x1 * 0 + 0 * y1) + x2 * 0)) + 0 * y2 = _
  rw [of_1]
  simp only [g0_m, g0_m', Fin.add_zero, Fin.zero_add, Fin.mul_one, Fin.one_mul]
theorem ev_y2 : (Ev4 h1 h2).ev l4y2 = y2 := by
  show 0 + ((of 1 + x1 * 0 + 0 * y1) + x2 * 0) * y2 = _
  rw [of_1]
  simp only [g0_m, g0_m', Fin.add_zero, Fin.zero_add, Fin.mul_one, Fin.one_mul]
end
theorem asc_gen {A : Cmp} (E : Evl A) {b : A.C} {p q c : A.C × A.C × A.C} (h : ascA A b p q c = true) (eb : E.ev b = kb) (P Q B V R : Fp × Fp × Fp) (eP : evT E p = P) (eQ : evT E q = Q) (eB : evT E c = B) (hV : V = cP (cP P Q) B) (hR : R = cP P (cP Q B)) :
    V.1 * R.2.2 = R.1 * V.2.2 ∧ V.2.1 * R.2.2 = R.2.1 * V.2.2 := by
  unfold ascA at h
  simp only [fT_eq, Bool.and_eq_true] at h
  have eV : evT E (gpl A b (gpl A b p q) c) = V := by rw [evT_gpl _ _ eb, evT_gpl _ _ eb, eP, eQ, eB, hV]
  have eR : evT E (gpl A b p (gpl A b q c)) = R := by rw [evT_gpl _ _ eb, evT_gpl _ _ eb, eP, eQ, eB, hR]
  generalize gpl A b (gpl A b p q) c = v at h eV
  generalize gpl A b p (gpl A b q c) = r at h eR
  have n1 := E.e_nul _ h.1
  have n2 := E.e_nul _ h.2
  rw [Evl.e_su, Evl.e_mu, Evl.e_mu] at n1 n2
  rw [← eV, ← eR]
  unfold evT
  constructor
  · dsimp only
    generalize E.ev v.1 = a at *
    generalize E.ev v.2.2 = b at *
    generalize E.ev r.1 = c at *
    generalize E.ev r.2.2 = d at *
    clear n2 eV eR eP eQ eB eb hV hR
    grind
  · dsimp only
    generalize E.ev v.2.1 = a at *
    generalize E.ev v.2.2 = b at *
    generalize E.ev r.2.1 = c at *
    generalize E.ev r.2.2 = d at *
    clear n1 eV eR eP eQ eB eb hV hR
    grind
theorem asc_ev {x1 y1 x2 y2 : Fp} (h1 : Cv kb x1 y1) (h2 : Cv kb x2 y2) (P Q B V R : Fp × Fp × Fp) (hP : P = (x1, y1, 1)) (hQ : Q = (x2, y2, 1)) (hB : B = (of gx256, of gy256, 1)) (hV : V = cP (cP P Q) B) (hR : R = cP P (cP Q B)) :
    V.1 * R.2.2 = R.1 * V.2.2 ∧ V.2.1 * R.2.2 = R.2.1 * V.2.2 := by
  refine asc_gen (Ev4 h1 h2) asc_true (ev_c h1 h2 co256) P Q B V R ?_ ?_ ?_ hV hR
  · rw [hP]; show ((Ev4 h1 h2).ev l4x1, (Ev4 h1 h2).ev l4y1, (Ev4 h1 h2).ev (l4c 1)) = _; rw [ev_x1, ev_y1, ev_c, of_1]
  · rw [hQ]; show ((Ev4 h1 h2).ev l4x2, (Ev4 h1 h2).ev l4y2, (Ev4 h1 h2).ev (l4c 1)) = _; rw [ev_x2, ev_y2, ev_c, of_1]
  · rw [hB]; show ((Ev4 h1 h2).ev (l4c gx256), (Ev4 h1 h2).ev (l4c gy256), (Ev4 h1 h2).ev (l4c 1)) = _; rw [ev_c, ev_c, ev_c, of_1]
end Go.Proofs.Ytdeihgcgglhhcaa.V
end
section
/- Plain: the complete sum tells the sum. -/
set_option linter.unusedVariables false
namespace Go.Proofs.Ytdeihgcgglhhcaa.V
theorem Fld.nr (F : Fld) {N w : Fp} (hw : ¬w = 0) : ¬N * N * N - 3 * N * (w * w) + kb * (w * w * w) = 0 := by
  intro h
  have hi := F.inv w hw
  generalize finv w = i at hi
  refine F.root (N * i) ?_
  unfold kb at h
  generalize of co256 = b at *
  have : i * i * i * (N * N * N - 3 * N * (w * w) + b * (w * w * w)) = 0 := by rw [h]; grind
  have e : i * i * i * (N * N * N - 3 * N * (w * w) + b * (w * w * w)) = N * i * (N * i) * (N * i) - (N * i) * 3 * ((i * w) * (i * w)) + b * ((i * w) * (i * w) * (i * w)) := by grind
  rw [e, hi] at this
  grind
theorem Fld.ch0 (F : Fld) {x1 y1 x2 y2 : Fp} (h1 : Cv kb x1 y1) (h2 : Cv kb x2 y2) (hx : ¬x1 = x2) : ¬chY x1 y1 x2 y2 = 0 := by
  intro h
  have e := ch_on kb x1 y1 x2 y2 h1 h2
  rw [h] at e
  have hd : ¬x2 - x1 = 0 := fun g => hx (by grind)
  refine F.nr (N := chN x1 y1 x2 y2) (F.nz hd hd) ?_
  rw [← e]
  grind
theorem Fld.tg0 (F : Fld) {x y : Fp} (h : Cv kb x y) : ¬tgY x y = 0 := by
  intro g
  have e := tg_on kb x y h
  rw [g] at e
  have hy := F.y0 h
  have h4 : ¬(4 : Fp) = 0 := by decide
  refine F.nr (N := tgN x y) (w := 4 * (y * y)) (F.nz h4 (F.nz hy hy)) ?_
  generalize tgN x y = N at *
  generalize kb = b at *
  grind
/-- The sum of points. -/
def ad : Option (Fp × Fp) → Option (Fp × Fp) → Option (Fp × Fp)
  | none, Q => Q
  | some P, none => some P
  | some (x1, y1), some (x2, y2) => if x1 = x2 then (if y1 = y2 then some (tgN x1 y1 * finv (4 * (y1 * y1)), tgY x1 y1 * finv (8 * (y1 * y1 * y1))) else none) else some (chN x1 y1 x2 y2 * finv ((x2 - x1) * (x2 - x1)), chY x1 y1 x2 y2 * finv ((x2 - x1) * (x2 - x1) * (x2 - x1)))
theorem ad_ss (x1 y1 x2 y2 : Fp) : ad (some (x1, y1)) (some (x2, y2)) = if x1 = x2 then (if y1 = y2 then some (tgN x1 y1 * finv (4 * (y1 * y1)), tgY x1 y1 * finv (8 * (y1 * y1 * y1))) else none) else some (chN x1 y1 x2 y2 * finv ((x2 - x1) * (x2 - x1)), chY x1 y1 x2 y2 * finv ((x2 - x1) * (x2 - x1) * (x2 - x1))) := rfl
theorem Cv.neg {b x y : Fp} (h : Cv b x y) : Cv b x (0 - y) := by unfold Cv at *; grind
theorem Fld.opp (F : Fld) {b x y z : Fp} (h : Cv b x y) (g : Cv b x z) (hn : ¬y = z) : z = 0 - y := by
  unfold Cv at *
  have hd : ¬y - z = 0 := fun e => hn (by grind)
  have : (y - z) * (y + z) = (y - z) * 0 := by grind
  have := F.can hd this
  grind
theorem Rp.scale (F : Fld) {X Y Z s : Fp} {P : Option (Fp × Fp)} (h : Rp X Y Z P) (hs : ¬s = 0) : Rp (s * X) (s * Y) (s * Z) P := by
  cases P with
  | none => obtain ⟨h1, h2, h3⟩ := h; exact ⟨by rw [h1]; grind, by rw [h2]; grind, F.nz hs h3⟩
  | some p => obtain ⟨x, y⟩ := p; obtain ⟨h1, h2, h3⟩ := h; exact ⟨F.nz hs h1, by rw [h2]; grind, by rw [h3]; grind⟩
theorem rp_one (F : Fld) {x1 y1 x2 y2 : Fp} (h1 : Cv kb x1 y1) (h2 : Cv kb x2 y2) : Rp (cX kb x1 y1 1 x2 y2 1) (cY kb x1 y1 1 x2 y2 1) (cZ kb x1 y1 1 x2 y2 1) (ad (some (x1, y1)) (some (x2, y2))) := by
  rw [ad_ss]
  by_cases hx : x1 = x2
  · subst hx
    rw [if_pos rfl]
    by_cases hy : y1 = y2
    · subst hy
      rw [if_pos rfl, cX_dbl kb x1 y1 h1, cY_dbl kb x1 y1 h1, cZ_dbl kb x1 y1 h1]
      have y0 := F.y0 h1
      have h4 : ¬(4 : Fp) = 0 := by decide
      have h8 : ¬(8 : Fp) = 0 := by decide
      have n8 := F.nz h8 (F.nz (F.nz y0 y0) y0)
      have i4 := F.inv _ (F.nz h4 (F.nz y0 y0))
      have i8 := F.inv _ n8
      refine ⟨n8, ?_, ?_⟩
      · generalize finv (4 * (y1 * y1)) = i at *
        generalize tgN x1 y1 = N at *
        clear i8
        grind
      · generalize finv (8 * (y1 * y1 * y1)) = i at *
        generalize tgY x1 y1 = N at *
        clear i4
        grind
    · rw [if_neg hy]
      obtain rfl := F.opp h1 h2 hy
      rw [cX_opp, cZ_opp, cY_opp kb x1 y1 h1]
      exact ⟨rfl, rfl, F.tg0 h1⟩
  · rw [if_neg hx]
    have hd : ¬x2 - x1 = 0 := fun g => hx (by grind)
    have n2 := F.nz hd hd
    have n3 := F.nz n2 hd
    have i2 := F.inv _ n2
    have i3 := F.inv _ n3
    have hz : ¬cZ kb x1 y1 1 x2 y2 1 = 0 := by
      have hc := F.ch0 h1 h2.neg hx
      rcases cZ_neg kb x1 y1 x2 y2 h1 h2 with e | e
      · rw [e]; exact hc
      · rw [e]; intro g; exact hc (by grind)
    have eX := cX_ch kb x1 y1 x2 y2 h1 h2
    have eY := cY_ch kb x1 y1 x2 y2 h1 h2
    refine ⟨hz, F.can n2 ?_, F.can n3 ?_⟩
    · generalize cX kb x1 y1 1 x2 y2 1 = X at *
      generalize cZ kb x1 y1 1 x2 y2 1 = Z at *
      generalize chN x1 y1 x2 y2 = N at *
      generalize (x2 - x1) * (x2 - x1) = w at *
      generalize finv w = i at *
      clear eY i3
      grind
    · generalize cY kb x1 y1 1 x2 y2 1 = X at *
      generalize cZ kb x1 y1 1 x2 y2 1 = Z at *
      generalize chY x1 y1 x2 y2 = N at *
      generalize (x2 - x1) * (x2 - x1) * (x2 - x1) = w at *
      generalize finv w = i at *
      clear eX i2
      grind
end Go.Proofs.Ytdeihgcgglhhcaa.V
end
section
/- Plain: sums of points, both ways. -/
set_option linter.unusedVariables false
namespace Go.Proofs.Ytdeihgcgglhhcaa.V
theorem oc_ad (F : Fld) {P Q : Option (Fp × Fp)} (hP : Oc P) (hQ : Oc Q) : Oc (ad P Q) := by
  cases P with
  | none => exact hQ
  | some p =>
    cases Q with
    | none => exact hP
    | some q =>
      obtain ⟨x1, y1⟩ := p
      obtain ⟨x2, y2⟩ := q
      have h1 : Cv kb x1 y1 := hP
      have h2 : Cv kb x2 y2 := hQ
      rw [ad_ss]
      by_cases hx : x1 = x2
      · rw [if_pos hx]
        by_cases hy : y1 = y2
        · rw [if_pos hy]
          have y0 := F.y0 h1
          have h4 : ¬(4 : Fp) = 0 := by decide
          have h8 : ¬(8 : Fp) = 0 := by decide
          have i4 := F.inv _ (F.nz h4 (F.nz y0 y0))
          have i8 := F.inv _ (F.nz h8 (F.nz (F.nz y0 y0) y0))
          have e := tg_on kb x1 y1 h1
          show Cv kb (tgN x1 y1 * _) (tgY x1 y1 * _)
          generalize finv (4 * (y1 * y1)) = i at *
          generalize finv (8 * (y1 * y1 * y1)) = j at *
          generalize tgN x1 y1 = N at *
          generalize tgY x1 y1 = Y at *
          generalize kb = b at *
          unfold Cv
          have jj : j * j = i * i * i := by
            have a : j * j * ((4 * (y1 * y1)) * (4 * (y1 * y1)) * (4 * (y1 * y1))) = (j * (8 * (y1 * y1 * y1))) * (j * (8 * (y1 * y1 * y1))) := by clear i4 i8 e; grind
            have c : j * j = j * j * ((i * (4 * (y1 * y1))) * (i * (4 * (y1 * y1))) * (i * (4 * (y1 * y1)))) := by rw [i4]; clear i4 i8 e a; grind
            have d : j * j * ((i * (4 * (y1 * y1))) * (i * (4 * (y1 * y1))) * (i * (4 * (y1 * y1)))) = i * i * i * (j * j * ((4 * (y1 * y1)) * (4 * (y1 * y1)) * (4 * (y1 * y1)))) := by clear i4 i8 e a c; grind
            rw [c, d, a, i8]
            clear i4 i8 e a c d
            grind
          have a1 : Y * j * (Y * j) = (Y * Y) * (j * j) := by clear i4 i8 e jj; grind
          rw [a1, jj, e]
          have a2 : (N * N * N - 48 * N * (y1 * y1 * (y1 * y1)) + 64 * b * (y1 * y1 * (y1 * y1) * (y1 * y1))) * (i * i * i) = N * i * (N * i) * (N * i) - 3 * (N * i) * ((i * (4 * (y1 * y1))) * (i * (4 * (y1 * y1)))) + b * ((i * (4 * (y1 * y1))) * (i * (4 * (y1 * y1))) * (i * (4 * (y1 * y1)))) := by clear i4 i8 e jj a1; grind
          rw [a2, i4]
          clear i4 i8 e jj a1 a2
          grind
        · rw [if_neg hy]; trivial
      · rw [if_neg hx]
        have hd : ¬x2 - x1 = 0 := fun g => hx (by grind)
        have i2 := F.inv _ (F.nz hd hd)
        have i3 := F.inv _ (F.nz (F.nz hd hd) hd)
        have e := ch_on kb x1 y1 x2 y2 h1 h2
        show Cv kb (chN x1 y1 x2 y2 * _) (chY x1 y1 x2 y2 * _)
        generalize chN x1 y1 x2 y2 = N at *
        generalize chY x1 y1 x2 y2 = Y at *
        generalize kb = b at *
        clear h1 h2 hP hQ hx hd
        generalize x2 - x1 = d at *
        generalize finv (d * d) = i at *
        generalize finv (d * d * d) = j at *
        unfold Cv
        have jj : j * j = i * i * i := by
          have c : j * j = j * j * ((i * (d * d)) * (i * (d * d)) * (i * (d * d))) := by rw [i2]; clear i2 i3 e; grind
          have f : j * j * ((i * (d * d)) * (i * (d * d)) * (i * (d * d))) = i * i * i * ((j * (d * d * d)) * (j * (d * d * d))) := by clear i2 i3 e c; grind
          rw [c, f, i3]
          clear i2 i3 e c f
          grind
        have a1 : Y * j * (Y * j) = (Y * Y) * (j * j) := by clear i2 i3 e jj; grind
        rw [a1, jj, e]
        have a2 : (N * N * N - 3 * N * (d * d * (d * d)) + b * (d * d * (d * d) * (d * d))) * (i * i * i) = N * i * (N * i) * (N * i) - 3 * (N * i) * ((i * (d * d)) * (i * (d * d))) + b * ((i * (d * d)) * (i * (d * d)) * (i * (d * d))) := by clear i2 i3 e jj a1; grind
        rw [a2, i2]
        clear i2 i3 e jj a1 a2
        grind
theorem Rp.ynz (F : Fld) {X Y Z : Fp} {P : Option (Fp × Fp)} (h : Rp X Y Z P) (hP : Oc P) : ¬Y = 0 := by
  cases P with
  | none => exact h.2.2
  | some p => obtain ⟨x, y⟩ := p; obtain ⟨h1, h2, h3⟩ := h; rw [h3]; exact F.nz (F.y0 hP) h1
theorem cX_comm (b X1 Y1 Z1 X2 Y2 Z2 : Fp) : cX b X1 Y1 Z1 X2 Y2 Z2 = cX b X2 Y2 Z2 X1 Y1 Z1 := by unfold cX; grind
theorem cY_comm (b X1 Y1 Z1 X2 Y2 Z2 : Fp) : cY b X1 Y1 Z1 X2 Y2 Z2 = cY b X2 Y2 Z2 X1 Y1 Z1 := by unfold cY; grind
theorem cZ_comm (b X1 Y1 Z1 X2 Y2 Z2 : Fp) : cZ b X1 Y1 Z1 X2 Y2 Z2 = cZ b X2 Y2 Z2 X1 Y1 Z1 := by unfold cZ; grind
theorem rp_far (F : Fld) {X1 Y1 Z1 X2 Y2 Z2 : Fp} {Q : Option (Fp × Fp)} (hQ : Oc Q) (h1 : Rp X1 Y1 Z1 none) (h2 : Rp X2 Y2 Z2 Q) : Rp (cX kb X1 Y1 Z1 X2 Y2 Z2) (cY kb X1 Y1 Z1 X2 Y2 Z2) (cZ kb X1 Y1 Z1 X2 Y2 Z2) Q := by
  have y2 := h2.ynz F hQ
  obtain ⟨rfl, rfl, y1⟩ := h1
  rw [cX_far, cY_far, cZ_far]
  have := h2.scale F (F.nz y1 (F.nz y1 y2))
  rw [show ∀ a b : Fp, a * b = b * a from fun a b => by grind] at this
  have e : ∀ a, a * (Y1 * (Y1 * Y2)) = Y1 * (Y1 * Y2) * a := fun a => by grind
  rw [e X2, e Y2, e Z2]
  exact h2.scale F (F.nz y1 (F.nz y1 y2))
theorem rp_add (F : Fld) {X1 Y1 Z1 X2 Y2 Z2 : Fp} {P Q : Option (Fp × Fp)} (hP : Oc P) (hQ : Oc Q) (h1 : Rp X1 Y1 Z1 P) (h2 : Rp X2 Y2 Z2 Q) : Rp (plX X1 Y1 Z1 X2 Y2 Z2) (plY X1 Y1 Z1 X2 Y2 Z2) (plZ X1 Y1 Z1 X2 Y2 Z2) (ad P Q) := by
  rw [plX_c, plY_c, plZ_c]
  cases P with
  | none => exact rp_far F hQ h1 h2
  | some p =>
    cases Q with
    | none =>
      rw [cX_comm, cY_comm, cZ_comm]
      exact rp_far F hP h2 h1
    | some q =>
      obtain ⟨x1, y1⟩ := p
      obtain ⟨x2, y2⟩ := q
      obtain ⟨z1, rfl, rfl⟩ := h1
      obtain ⟨z2, rfl, rfl⟩ := h2
      rw [cX_s, cY_s, cZ_s]
      exact (rp_one F hP hQ).scale F (F.nz (F.nz z1 z2) (F.nz z1 z2))
end Go.Proofs.Ytdeihgcgglhhcaa.V
end
section
/- Plain: multiples of the base. -/
set_option linter.unusedVariables false
namespace Go.Proofs.Ytdeihgcgglhhcaa.V
abbrev Pt := Option (Fp × Fp)
def RT (T : Fp × Fp × Fp) (P : Pt) : Prop := Rp T.1 T.2.1 T.2.2 P
theorem RT_add {S T : Fp × Fp × Fp} {P Q : Pt} (hP : Oc P) (hQ : Oc Q) (h1 : RT S P) (h2 : RT T Q) : RT (cP S T) (ad P Q) := by
  have := rp_add fld hP hQ h1 h2
  rw [plX_c, plY_c, plZ_c] at this
  exact this
theorem RT_one (x y : Fp) : RT (x, y, 1) (some (x, y)) := ⟨(by decide : ¬(1 : Fp) = 0), by show x = x * 1; grind, by show y = y * 1; grind⟩
theorem RT_same {S T : Fp × Fp × Fp} {P Q : Pt} (h1 : RT S P) (h2 : RT T Q) (e1 : S.1 * T.2.2 = T.1 * S.2.2) (e2 : S.2.1 * T.2.2 = T.2.1 * S.2.2) : P = Q := by
  obtain ⟨X, Y, Z⟩ := S
  obtain ⟨X', Y', Z'⟩ := T
  dsimp only at e1 e2
  cases P with
  | none =>
    obtain ⟨a1, a2, a3⟩ := h1
    dsimp only at a1 a2 a3
    cases Q with
    | none => rfl
    | some q =>
      obtain ⟨x, y⟩ := q
      obtain ⟨b1, b2, b3⟩ := h2
      dsimp only at b1 b2 b3
      rw [a2] at e2
      exact absurd (by rw [e2]; grind) (fld.nz a3 b1)
  | some p =>
    obtain ⟨x, y⟩ := p
    obtain ⟨a1, a2, a3⟩ := h1
    dsimp only at a1 a2 a3
    cases Q with
    | none =>
      obtain ⟨b1, b2, b3⟩ := h2
      dsimp only at b1 b2 b3
      rw [b2] at e2
      exact absurd (by rw [← e2]; grind) (fld.nz b3 a1)
    | some q =>
      obtain ⟨u, v⟩ := q
      obtain ⟨b1, b2, b3⟩ := h2
      dsimp only at b1 b2 b3
      have hz := fld.nz a1 b1
      have f1 : Z * Z' * x = Z * Z' * u := by rw [a2, b2] at e1; clear a2 a3 b2 b3 e2; grind
      have f2 : Z * Z' * y = Z * Z' * v := by rw [a3, b3] at e2; clear a2 a3 b2 b3 e1; grind
      rw [fld.can hz f1, fld.can hz f2]
def bG : Pt := some (of gx256, of gy256)
theorem oc_bG : Oc bG := by
  show Cv kb (of gx256) (of gy256)
  unfold Cv kb
  decide
theorem ad_none (P : Pt) : ad P none = P := by cases P <;> rfl
theorem none_ad (P : Pt) : ad none P = P := rfl
theorem ad_brackets {P Q : Pt} (hP : Oc P) (hQ : Oc Q) : ad (ad P Q) bG = ad P (ad Q bG) := by
  cases P with
  | none => rfl
  | some p =>
    cases Q with
    | none => rw [ad_none]; rfl
    | some q =>
      obtain ⟨x1, y1⟩ := p
      obtain ⟨x2, y2⟩ := q
      have r1 := RT_one x1 y1
      have r2 := RT_one x2 y2
      have rB : RT (of gx256, of gy256, 1) bG := RT_one _ _
      have o1 := oc_ad fld hP hQ
      have o2 := oc_ad fld hQ oc_bG
      have e := asc_ev (x1 := x1) (y1 := y1) (x2 := x2) (y2 := y2) hP hQ _ _ _ _ _ rfl rfl rfl rfl rfl
      exact RT_same (RT_add o1 oc_bG (RT_add hP hQ r1 r2) rB) (RT_add hP o2 r1 (RT_add hQ oc_bG r2 rB)) e.1 e.2
/-- So many times the base. -/
def mG : Nat → Pt
  | 0 => none
  | k + 1 => ad (mG k) bG
theorem oc_mG : ∀ k, Oc (mG k)
  | 0 => trivial
  | k + 1 => oc_ad fld (oc_mG k) oc_bG
theorem mG_add (i : Nat) : ∀ j, ad (mG i) (mG j) = mG (i + j)
  | 0 => ad_none _
  | j + 1 => by
    show ad (mG i) (ad (mG j) bG) = ad (mG (i + j)) bG
    rw [← ad_brackets (oc_mG i) (oc_mG j), mG_add i j]
/-- Reckoned by doubling. -/
def dmul (A : Cmp) (b : A.C) (O B : A.C × A.C × A.C) : Nat → Nat → A.C × A.C × A.C
  | 0, _ => O
  | f + 1, n => fT (dmul A b O B f (n / 2)) fun t => fT (gpl A b t t) fun u => match n % 2 with | 0 => u | _ => gpl A b u B
theorem dmul_S (A : Cmp) (b : A.C) (O B : A.C × A.C × A.C) (f n : Nat) : dmul A b O B (f + 1) n = (match n % 2 with | 0 => gpl A b (dmul A b O B f (n / 2)) (dmul A b O B f (n / 2)) | _ => gpl A b (gpl A b (dmul A b O B f (n / 2)) (dmul A b O B f (n / 2))) B) := rfl
theorem dmul_mG {A : Cmp} (E : Evl A) {b : A.C} {O B : A.C × A.C × A.C} (eb : E.ev b = kb) (eO : evT E O = (0, 1, 0)) (eB : evT E B = (of gx256, of gy256, 1)) : ∀ f n, n < 2 ^ f → RT (evT E (dmul A b O B f n)) (mG n)
  | 0, n, h => by
    have : n = 0 := by rw [Nat.pow_zero] at h; omega
    subst this
    show RT (evT E O) none
    rw [eO]
    exact ⟨rfl, rfl, (by decide : ¬(1 : Fp) = 0)⟩
  | f + 1, n, h => by
    have ih := dmul_mG E eb eO eB f (n / 2) (by rw [Nat.pow_succ] at h; omega)
    have h2 : RT (evT E (gpl A b (dmul A b O B f (n / 2)) (dmul A b O B f (n / 2)))) (mG (n / 2 + n / 2)) := by
      rw [evT_gpl E b eb, ← mG_add]
      exact RT_add (oc_mG _) (oc_mG _) ih ih
    rw [dmul_S]
    generalize gpl A b (dmul A b O B f (n / 2)) (dmul A b O B f (n / 2)) = u at *
    rcases Nat.mod_two_eq_zero_or_one n with h0 | h0
    · rw [h0]
      have e : n = n / 2 + n / 2 := by omega
      rw [← e] at h2
      exact h2
    · rw [h0]
      show RT (evT E (gpl A b u B)) (mG n)
      rw [evT_gpl E b eb, eB]
      have e : n = n / 2 + n / 2 + 1 := by omega
      have : mG n = ad (mG (n / 2 + n / 2)) bG := by
        conv => lhs; rw [e]
        rfl
      rw [this]
      exact RT_add (oc_mG _) oc_bG h2 (RT_one _ _)
def o0 : A0.C × A0.C × A0.C := ((0, 1, 0) : Nat × Nat × Nat)
def b0 : A0.C × A0.C × A0.C := ((gx256, gy256, 1) : Nat × Nat × Nat)
def c0 : A0.C := (co256 : Nat)
theorem dmul_n : A0.nul (dmul A0 c0 o0 b0 256 n256).2.2 = true := by kernel_rfl
theorem n256_lt : n256 < 2 ^ 256 := by decide +kernel
theorem ev_o0 : evT E0 o0 = (0, 1, 0) := rfl
theorem ev_b0 : evT E0 b0 = (of gx256, of gy256, 1) := rfl
theorem ev_c0 : E0.ev c0 = kb := rfl
theorem mG_of {f n : Nat} (h : n < 2 ^ f) : RT (evT E0 (dmul A0 c0 o0 b0 f n)) (mG n) := dmul_mG E0 ev_c0 ev_o0 ev_b0 f n h
theorem mG_none {f n : Nat} (hn : n < 2 ^ f) (hz : A0.nul (dmul A0 c0 o0 b0 f n).2.2 = true) : mG n = none := by
  have h := mG_of hn
  cases hm : mG n with
  | none => rfl
  | some p =>
    rw [hm] at h
    obtain ⟨x, y⟩ := p
    obtain ⟨h1, _⟩ := h
    exact absurd (E0.e_nul _ hz) h1
theorem mG_n : mG n256 = none := mG_none n256_lt dmul_n
theorem mG_nmul (i : Nat) : ∀ j, mG (i + n256 * j) = mG i
  | 0 => rfl
  | j + 1 => by
    rw [show i + n256 * (j + 1) = n256 + (i + n256 * j) by rw [Nat.mul_add]; omega, ← mG_add, mG_n, none_ad, mG_nmul i j]
/-- So many times a point, by doubling: what there is behind i steps. -/
def dm (P : Pt) (k : Nat) : Nat → Pt
  | 0 => none
  | i + 1 => if k / 2 ^ (255 - i) % 2 = 1 then ad (ad (dm P k i) (dm P k i)) P else ad (dm P k i) (dm P k i)
theorem oc_dm {P : Pt} (hP : Oc P) (k : Nat) : ∀ i, Oc (dm P k i)
  | 0 => trivial
  | i + 1 => by
    rw [dm]
    have := oc_dm hP k i
    split
    · exact oc_ad fld (oc_ad fld this this) hP
    · exact oc_ad fld this this
theorem dm_mG (a k : Nat) (hk : k < 2 ^ 256) : ∀ i, i ≤ 256 → dm (mG a) k i = mG (a * (k / 2 ^ (256 - i)))
  | 0, _ => by
    rw [Nat.sub_zero, Nat.div_eq_of_lt hk]
    rfl
  | i + 1, h => by
    rw [dm, dm_mG a k hk i (by omega), mG_add]
    have e : k / 2 ^ (256 - (i + 1)) = 2 * (k / 2 ^ (256 - i)) + k / 2 ^ (255 - i) % 2 := by
      rw [show 256 - (i + 1) = 255 - i by omega, show 256 - i = 255 - i + 1 by omega, Nat.pow_succ, ← Nat.div_div_eq_div_mul]
      omega
    rw [e]
    split
    · next h1 => rw [h1, mG_add]; congr 1; grind
    · next h1 =>
      have : k / 2 ^ (255 - i) % 2 = 0 := by omega
      rw [this]; congr 1; grind
theorem dm_all (a k : Nat) (hk : k < 2 ^ 256) : dm (mG a) k 256 = mG (a * k) := by
  have := dm_mG a k hk 256 (Nat.le_refl _)
  rw [Nat.sub_self, Nat.pow_zero, Nat.div_one] at this
  exact this
end Go.Proofs.Ytdeihgcgglhhcaa.V
end
section
/- slices.Grow of nothing, slices.Concat. -/
set_option linter.unusedSimpArgs false
set_option linter.unusedVariables false
namespace Go.Proofs.Ytdeihgcgglhhcaa.V
open Go.RowKit Go.ChangeShapes Go.WideShapes
theorem grow_nil (n : Int) (G : GH) (h0 : 0 ≤ n) (h1 : n ≤ 211106232532992) : HC Try.prog 64 #[.slice none 0 0, .int .i64 n] G fun v G' => G.le G' ∧ Own 1 G G' v [] := by
  refine HC.start comp64 rfl ?_; unfold pc64
  (repeat' (first | (with_reducible refine i_ops ?_; first | (refine g_mv ?_; refine s_mv ?_) | refine o_nil ?_ | (refine g_len ?_; refine s_pure ?_) | (refine g_pure ?_; refine s_pure ?_)) | (with_reducible refine i_vc ?_; first | refine v_seq ?_ | refine v_ops ?_ | (refine g_cond ?_; first | refine s_cond_t ?_ | refine s_cond_f ?_) | refine v_skip ?_ | refine v_ret ?_) | (with_reducible refine n_then ?_) | ((with_reducible refine s_cond_c ?_ ?_) <;> intro hb <;> rw [hb] <;> (try simp only [decide_eq_true_eq, decide_eq_false_iff_not, beq_iff_eq, bne_iff_ne, beq_eq_false_iff_ne, bne_eq_false_iff_eq, ne_eq, Int.not_lt, Int.not_le, gt_iff_lt, ge_iff_le, Bool.not_eq_true', Bool.not_eq_false'] at hb)) | ((with_reducible refine s_ret ?_); try simp only [x_tup0, x_tup1, x_tup2, x_tup3, x_tup4, x_tup5, and_true, true_and])))
  · exfalso; omega
  · refine o_pure (v := .slice none 0 0) qrf rfl ?_
    (repeat' (with_reducible refine i_ops ?_; (refine g_mv ?_; refine s_mv ?_)))
    refine o_growz0 qrf qrf (by omega) rfl ⟨by omega, by omega⟩ (GH.le_refl _) ?_
    intro u G1 zs hle ho hl
    (repeat' (with_reducible refine i_ops ?_; first | (refine g_mv ?_; refine s_mv ?_) | (refine g_len ?_; refine s_pure ?_)))
    refine o_slcO (j := 0) qrf ho qrf (by omega) (by omega) ?_
    intro u' ho' _ _
    (repeat' (first | (with_reducible refine i_ops ?_; first | (refine g_mv ?_; refine s_mv ?_) | refine o_nil ?_) | (with_reducible refine i_vc ?_; first | refine v_seq ?_ | refine v_ops ?_ | refine v_ret ?_) | (with_reducible refine n_then ?_) | ((with_reducible refine s_ret ?_); try simp only [x_tup0, x_tup1, x_tup2, x_tup3, x_tup4, x_tup5, and_true, true_and])))
    exact ⟨hle, by simpa using ho'⟩
  · exact ⟨GH.le_refl _, .inl ⟨rfl, rfl⟩⟩
/-- A slice of slices of bytes. -/
def Parts (G : GH) (u : Value) (us : List Value) (ps : List (List UInt8)) : Prop := Sl 1 G u us ∧ us.length = ps.length ∧ ∀ i (h : i < ps.length), ∃ w, us[i]? = some w ∧ By G w ps[i]
theorem Parts.le {G G' : GH} {u : Value} {us : List Value} {ps : List (List UInt8)} (h : Parts G u us ps) (hl : G.le G') : Parts G' u us ps :=
  ⟨h.1.le hl, h.2.1, fun i hi => let ⟨w, e, k⟩ := h.2.2 i hi; ⟨w, e, Sl.le k hl⟩⟩
theorem flat_take {ps : List (List UInt8)} {i : Nat} (h : i < ps.length) : (ps.take (i + 1)).flatten = (ps.take i).flatten ++ ps[i] := by
  rw [List.take_succ_eq_append_getElem h, List.flatten_append]; simp
theorem flat_len (ps : List (List UInt8)) (i : Nat) : (ps.take i).flatten.length ≤ ps.flatten.length := by
  have : ps.flatten = (ps.take i).flatten ++ (ps.drop i).flatten := by rw [← List.flatten_append, List.take_append_drop]
  rw [this, List.length_append]; omega
theorem concat (u : Value) (us : List Value) (ps : List (List UInt8)) (G : GH) (h : Parts G u us ps) (hs : ps.flatten.length ≤ 211106232532992) : HC Try.prog 49 #[u] G fun v G' => G.le G' ∧ Own 1 G G' v (ps.flatten.map bv) := by
  obtain ⟨hu, hn, hw⟩ := h
  have hlen : lenS u = ps.length := by have := hu.len; omega
  have hl1 := hu.len_le
  refine HC.start comp49 rfl ?_; unfold pc49
  (repeat' (first | (with_reducible refine i_ops ?_; first | (refine g_mv ?_; refine s_mv ?_) | refine o_nil ?_) | (with_reducible refine i_vc ?_; first | refine v_seq ?_ | refine v_ops ?_) | (with_reducible refine n_then ?_)))
  refine o_lenS qrf hu ?_
  rw [hlen]
  (repeat' (first | (with_reducible refine i_ops ?_; first | (refine g_mv ?_; refine s_mv ?_) | refine o_nil ?_) | (with_reducible refine i_vc ?_; refine v_block ?_) | (with_reducible refine n_then ?_)))
  refine v_loopX (α := Nat) (fun i => i ≤ ps.length) (fun i => [(0, u), (3, .int .i64 (ps.take i).flatten.length), (9, u), (10, .int .i64 ps.length), (11, .int .i64 i)]) (fun _ => []) (fun _ => G) (fun i => ps.length - i) 0
    (Nat.zero_le _) qhs trivial rfl ?_
  rintro i s ll k1
  dsimp only [SL.sets, AL.sets]
  have b1 := flat_len ps i
  (repeat' (first | (with_reducible refine i_ops ?_; first | (refine g_mv ?_; refine s_mv ?_) | refine o_nil ?_ | (refine g_pure ?_; refine s_pure ?_)) | (with_reducible refine i_vc ?_; first | refine v_seq ?_ | refine v_ops ?_ | (refine g_cond ?_; first | refine s_cond_t ?_ | refine s_cond_f ?_) | refine v_block ?_ | refine v_skip ?_ | refine v_exit ?_) | (with_reducible first | refine n_then ?_ | refine e_then ?_ | refine e_block_eq qrf ?_) | ((with_reducible refine s_cond_c ?_ ?_) <;> intro hb <;> rw [hb] <;> (try simp only [decide_eq_true_eq, decide_eq_false_iff_not, beq_iff_eq, bne_iff_ne, beq_eq_false_iff_ne, bne_eq_false_iff_eq, ne_eq, Int.not_lt, Int.not_le, gt_iff_lt, ge_iff_le, Bool.not_eq_true', Bool.not_eq_false'] at hb))))
  · have hi : i < ps.length := by omega
    obtain ⟨w, ew, hw1⟩ := hw i hi
    have b2 := flat_len ps (i + 1)
    rw [flat_take hi, List.length_append] at b2
    refine o_idxS qrf hu qrf (by omega) (v := w) (by simpa using ew) ?_
    intro p hp
    (repeat' (first | (with_reducible refine i_ops ?_; first | (refine g_mv ?_; refine s_mv ?_) | refine o_nil ?_ | (refine g_len ?_; refine s_lenB ?_) | (refine g_pure ?_; refine s_pure ?_) | (refine g_hload ?_; refine s_hloadP ?_)) | (with_reducible refine i_vc ?_; first | refine v_seq ?_ | refine v_ops ?_ | (refine g_cond ?_; first | refine s_cond_t ?_ | refine s_cond_f ?_) | refine v_skip ?_) | (with_reducible first | refine n_then ?_ | refine n_block ?_) | ((with_reducible refine s_cond_c ?_ ?_) <;> intro hb <;> rw [hb] <;> (try simp only [decide_eq_true_eq, decide_eq_false_iff_not, beq_iff_eq, bne_iff_ne, beq_eq_false_iff_ne, bne_eq_false_iff_eq, ne_eq, Int.not_lt, Int.not_le, gt_iff_lt, ge_iff_le, Bool.not_eq_true', Bool.not_eq_false'] at hb))))
    · exfalso; omega
    · refine ⟨ps.length - (i + 1), by omega, i + 1, rfl, hi, ?_, trivial, rfl⟩
      rw [flat_take hi, List.length_append, Int.natCast_add]
      exact qhs
  · have hi : i = ps.length := by omega
    subst hi
    rw [List.take_length]
    refine o_callc qrf (grow_nil _ G (by omega) (by omega)) ?_
    rintro v G1 ⟨hle1, ho1⟩
    (repeat' (first | (with_reducible refine i_ops ?_; first | (refine g_mv ?_; refine s_mv ?_) | refine o_nil ?_) | (with_reducible refine i_vc ?_; first | refine v_seq ?_ | refine v_ops ?_) | (with_reducible refine n_then ?_)))
    refine o_lenS qrf (hu.le hle1) ?_
    rw [hlen]
    (repeat' (first | (with_reducible refine i_ops ?_; first | (refine g_mv ?_; refine s_mv ?_) | refine o_nil ?_) | (with_reducible refine i_vc ?_; refine v_block ?_) | (with_reducible refine n_then ?_)))
    refine v_loopX (α := Nat × Value × GH) (fun x => x.1 ≤ ps.length ∧ G.le x.2.2 ∧ Own 1 G x.2.2 x.2.1 ((ps.take x.1).flatten.map bv)) (fun x => [(6, x.2.1), (25, u), (26, .int .i64 ps.length), (27, .int .i64 x.1)]) (fun _ => []) (fun x => x.2.2) (fun x => ps.length - x.1) (0, v, G1)
      ⟨Nat.zero_le _, hle1, ho1⟩ qhs trivial rfl ?_
    rintro ⟨i, v, G1⟩ s2 ll2 ⟨k1, k2, k3⟩
    dsimp only at k1 k2 k3
    dsimp only [SL.sets, AL.sets]
    (repeat' (first | (with_reducible refine i_ops ?_; first | (refine g_mv ?_; refine s_mv ?_) | refine o_nil ?_ | (refine g_pure ?_; refine s_pure ?_)) | (with_reducible refine i_vc ?_; first | refine v_seq ?_ | refine v_ops ?_ | (refine g_cond ?_; first | refine s_cond_t ?_ | refine s_cond_f ?_) | refine v_block ?_ | refine v_skip ?_ | refine v_exit ?_ | refine v_ret ?_) | (with_reducible first | refine n_then ?_ | refine e_then ?_ | refine e_block_eq qrf ?_) | ((with_reducible refine s_cond_c ?_ ?_) <;> intro hb <;> rw [hb] <;> (try simp only [decide_eq_true_eq, decide_eq_false_iff_not, beq_iff_eq, bne_iff_ne, beq_eq_false_iff_ne, bne_eq_false_iff_eq, ne_eq, Int.not_lt, Int.not_le, gt_iff_lt, ge_iff_le, Bool.not_eq_true', Bool.not_eq_false'] at hb)) | ((with_reducible refine s_ret ?_); try simp only [x_tup0, x_tup1, x_tup2, x_tup3, x_tup4, x_tup5, and_true, true_and])))
    · have hi : i < ps.length := by omega
      obtain ⟨w, ew, hw1⟩ := hw i hi
      have b2 := flat_len ps (i + 1)
      rw [flat_take hi, List.length_append] at b2
      refine o_idxS qrf (hu.le k2) qrf (by omega) (v := w) (by simpa using ew) ?_
      intro p hp
      (repeat' (first | (with_reducible refine i_ops ?_; first | (refine g_mv ?_; refine s_mv ?_) | refine o_nil ?_ | (refine g_hload ?_; refine s_hloadP ?_)) | (with_reducible refine i_vc ?_; refine v_ops ?_) | (with_reducible refine n_then ?_)))
      have hvl : By G1 v ((ps.take i).flatten) := k3.sl
      have hwl : By G1 w ps[i] := Sl.le hw1 k2
      refine o_appendO qrf qrf k3 hwl (cells1_bytes _) rfl k2 (by rw [By.len hvl, By.len hwl]; omega) ?_
      intro v2 G3 q1 q2 q3 q4 q5
      (repeat' (first | (with_reducible refine i_ops ?_; first | (refine g_mv ?_; refine s_mv ?_) | refine o_nil ?_ | (refine g_pure ?_; refine s_pure ?_)) | (with_reducible refine i_vc ?_; refine v_ops ?_) | (with_reducible first | refine n_then ?_ | refine n_block ?_)))
      refine ⟨ps.length - (i + 1), by omega, (i + 1, v2, G3), rfl, ⟨hi, q1, ?_⟩, qhs, trivial, rfl⟩
      rw [flat_take hi, List.map_append]; exact q2
    · have hi : i = ps.length := by omega
      subst hi
      rw [List.take_length] at k3
      exact ⟨k2, k3⟩
end Go.Proofs.Ytdeihgcgglhhcaa.V
end
