/- The sum of two places: steps. -/
import Derived.Test.YtdeihgcgglhhcaaPtcZKNVO
import Derived.Test.YtdeihgcgglhhcaaPtcCD5
section
set_option linter.unusedSimpArgs false
set_option linter.unusedVariables false
set_option maxRecDepth 20000
-- @pre g_lload s_lloadL s_lloadLX s_lloadLY s_lloadLZ s_lloadF
-- @pre g_lstore s_lstoreL s_lstoreF
-- @pre g_lbox s_lboxL s_lboxF
-- @pre g_build s_bl3
-- @step (refine g_callv ?_; first | (refine s_cvT ?_; intro G' hle) | refine s_cvP ?_ | refine s_cvM ?_)
namespace Go.Proofs.Ytdeihgcgglhhcaa.V
open Go.RowKit Go.ChangeShapes Go.WideShapes
section
variable {E : Env} {K : St → Prop} {r : List Stp} {dd : Option Nat} {L : SL} {A : AL} {G : GH}
theorem app0 (a b : Value) : #[] ++ [a, b].toArray ++ #[] = #[a, b] := rfl
theorem g_callv {P : Program} {d : Nat} {x : Operand} {xs : List Operand} (h : vops P E (⟨none, dd, .callv (some d) x xs⟩ :: r) K (S L A G)) : vops P E (⟨none, dd, .callv (some d) x xs⟩ :: r) K (S L A G) := h
theorem s_cvT {d : Nat} {x : Operand} {xs : List Operand} {u v : Value} {a b : Fp} (h : ∀ G', G.le G' → vops Try.prog E r K (S (.set d (fv (a * b)) L) A G')) (hf : evo L x = some (.func (.func 51) #[] #[]) := by with_unfolding_all rfl) (hx : evs L xs = some [u, v] ∧ u = fv a ∧ v = fv b := by (refine ⟨by with_unfolding_all rfl, ?_, ?_⟩ <;> with_reducible rfl)) : vops Try.prog E (⟨none, dd, .callv (some d) x xs⟩ :: r) K (S L A G) := by
  obtain ⟨hx, rfl, rfl⟩ := hx
  refine o_callv hf hx (by kernel_rfl) (app0 _ _) (timesF a b G) ?_
  rintro _ G' ⟨rfl, hle⟩
  exact h G' hle
theorem s_cvP {d : Nat} {x : Operand} {xs : List Operand} {u v : Value} {a b : Fp} (h : vops Try.prog E r K (S (.set d (fv (a + b)) L) A G)) (hf : evo L x = some (.func (.func 55) #[] #[]) := by with_unfolding_all rfl) (hx : evs L xs = some [u, v] ∧ u = fv a ∧ v = fv b := by (refine ⟨by with_unfolding_all rfl, ?_, ?_⟩ <;> with_reducible rfl)) : vops Try.prog E (⟨none, dd, .callv (some d) x xs⟩ :: r) K (S L A G) := by
  obtain ⟨hx, rfl, rfl⟩ := hx
  refine o_callv hf hx (by kernel_rfl) (app0 _ _) (plusF a b G) ?_
  rintro _ G' ⟨rfl, rfl⟩
  exact h
theorem s_cvM {d : Nat} {x : Operand} {xs : List Operand} {u v : Value} {a b : Fp} (h : vops Try.prog E r K (S (.set d (fv (a - b)) L) A G)) (hf : evo L x = some (.func (.func 48) #[] #[]) := by with_unfolding_all rfl) (hx : evs L xs = some [u, v] ∧ u = fv a ∧ v = fv b := by (refine ⟨by with_unfolding_all rfl, ?_, ?_⟩ <;> with_reducible rfl)) : vops Try.prog E (⟨none, dd, .callv (some d) x xs⟩ :: r) K (S L A G) := by
  obtain ⟨hx, rfl, rfl⟩ := hx
  refine o_callv hf hx (by kernel_rfl) (app0 _ _) (minusF a b G) ?_
  rintro _ G' ⟨rfl, rfl⟩
  exact h
end
/-- The formulas that hold for all points. -/
def plX (X1 Y1 Z1 X2 Y2 Z2 : Fp) : Fp := ((((X1 * Y2) + (X2 * Y1)) * ((Y1 * Y2) + ((((X1 * Z2) + (X2 * Z1)) - ((of co256) * (Z1 * Z2))) + (((X1 * Z2) + (X2 * Z1)) - ((of co256) * (Z1 * Z2))) + (((X1 * Z2) + (X2 * Z1)) - ((of co256) * (Z1 * Z2)))))) - (((Y1 * Z2) + (Y2 * Z1)) * (((((of co256) * ((X1 * Z2) + (X2 * Z1))) - ((Z1 * Z2) + (Z1 * Z2) + (Z1 * Z2))) - (X1 * X2)) + ((((of co256) * ((X1 * Z2) + (X2 * Z1))) - ((Z1 * Z2) + (Z1 * Z2) + (Z1 * Z2))) - (X1 * X2)) + ((((of co256) * ((X1 * Z2) + (X2 * Z1))) - ((Z1 * Z2) + (Z1 * Z2) + (Z1 * Z2))) - (X1 * X2)))))
def plY (X1 Y1 Z1 X2 Y2 Z2 : Fp) : Fp := ((((Y1 * Y2) + ((((X1 * Z2) + (X2 * Z1)) - ((of co256) * (Z1 * Z2))) + (((X1 * Z2) + (X2 * Z1)) - ((of co256) * (Z1 * Z2))) + (((X1 * Z2) + (X2 * Z1)) - ((of co256) * (Z1 * Z2))))) * ((Y1 * Y2) - ((((X1 * Z2) + (X2 * Z1)) - ((of co256) * (Z1 * Z2))) + (((X1 * Z2) + (X2 * Z1)) - ((of co256) * (Z1 * Z2))) + (((X1 * Z2) + (X2 * Z1)) - ((of co256) * (Z1 * Z2)))))) + ((((X1 * X2) - (Z1 * Z2)) + ((X1 * X2) - (Z1 * Z2)) + ((X1 * X2) - (Z1 * Z2))) * (((((of co256) * ((X1 * Z2) + (X2 * Z1))) - ((Z1 * Z2) + (Z1 * Z2) + (Z1 * Z2))) - (X1 * X2)) + ((((of co256) * ((X1 * Z2) + (X2 * Z1))) - ((Z1 * Z2) + (Z1 * Z2) + (Z1 * Z2))) - (X1 * X2)) + ((((of co256) * ((X1 * Z2) + (X2 * Z1))) - ((Z1 * Z2) + (Z1 * Z2) + (Z1 * Z2))) - (X1 * X2)))))
def plZ (X1 Y1 Z1 X2 Y2 Z2 : Fp) : Fp := ((((Y1 * Z2) + (Y2 * Z1)) * ((Y1 * Y2) - ((((X1 * Z2) + (X2 * Z1)) - ((of co256) * (Z1 * Z2))) + (((X1 * Z2) + (X2 * Z1)) - ((of co256) * (Z1 * Z2))) + (((X1 * Z2) + (X2 * Z1)) - ((of co256) * (Z1 * Z2)))))) + (((X1 * Y2) + (X2 * Y1)) * (((X1 * X2) - (Z1 * Z2)) + ((X1 * X2) - (Z1 * Z2)) + ((X1 * X2) - (Z1 * Z2)))))
end Go.Proofs.Ytdeihgcgglhhcaa.V
end
section
/- The sum of two places: the first products. -/
set_option linter.unusedSimpArgs false
set_option linter.unusedVariables false
set_option maxRecDepth 20000
-- @pre g_lload s_lloadL s_lloadLX s_lloadLY s_lloadLZ s_lloadF
-- @pre g_lstore s_lstoreL s_lstoreF
-- @pre g_lbox s_lboxL s_lboxF
-- @pre g_build s_bl3
-- @step (refine g_callv ?_; first | (refine s_cvT ?_; intro G' hle) | refine s_cvP ?_ | refine s_cvM ?_)
namespace Go.Proofs.Ytdeihgcgglhhcaa.V
open Go.RowKit Go.ChangeShapes Go.WideShapes
section
variable {Q' : Exit → St → Prop} {G : GH} (X1 Y1 Z1 X2 Y2 Z2 b : Fp)
theorem r0_24 (tail : ∀ G9, G.le G9 → ∀ s l, Q' .normal (S (SL.sets s [(2, qz), (3, qz), (4, qz), (5, qfn 51), (6, qfn 55), (7, qfn 48), (8, qz), (9, qz), (10, qz), (11, qz)]) (AL.sets l [(2, lcells X1 Y1 Z1), (3, lcells X2 Y2 Z2), (4, zl.toArray), (8, (fv b).cells), (9, (fv (X1 * X2)).cells), (10, (fv (Y1 * Y2)).cells), (11, (fv (Z1 * Z2)).cells)]) G9)) : ∀ G9, G.le G9 → ∀ s l, vplan Try.prog E35 G L35_0 (Q' .normal) p35_0_24 (S (SL.sets s [(2, qz), (3, qz), (4, qz), (5, qfn 51), (6, qfn 55), (7, qfn 48), (8, qz), (21, qfn 51), (23, fv X1), (25, fv X2), (27, qfn 51), (29, fv Y1), (31, fv Y2), (33, qfn 51), (35, fv Z1), (37, fv Z2), (26, fv (X1 * X2)), (32, fv (Y1 * Y2)), (38, fv (Z1 * Z2)), (9, qz), (10, qz), (11, qz)]) (AL.sets l [(2, lcells X1 Y1 Z1), (3, lcells X2 Y2 Z2), (4, zl.toArray), (8, (fv b).cells), (9, (fv (X1 * X2)).cells), (10, (fv (Y1 * Y2)).cells), (11, (fv (Z1 * Z2)).cells)]) G9) := by
  intro G9 h9 s l
  dsimp only [SL.sets, AL.sets]
  refine p_done ?_
  exact k_trim [(2, qz), (3, qz), (4, qz), (5, qfn 51), (6, qfn 55), (7, qfn 48), (8, qz), (9, qz), (10, qz), (11, qz)] [(2, lcells X1 Y1 Z1), (3, lcells X2 Y2 Z2), (4, zl.toArray), (8, (fv b).cells), (9, (fv (X1 * X2)).cells), (10, (fv (Y1 * Y2)).cells), (11, (fv (Z1 * Z2)).cells)] qhs qhl (tail _ h9)
theorem r0_23 (tail : ∀ G9, G.le G9 → ∀ s l, Q' .normal (S (SL.sets s [(2, qz), (3, qz), (4, qz), (5, qfn 51), (6, qfn 55), (7, qfn 48), (8, qz), (9, qz), (10, qz), (11, qz)]) (AL.sets l [(2, lcells X1 Y1 Z1), (3, lcells X2 Y2 Z2), (4, zl.toArray), (8, (fv b).cells), (9, (fv (X1 * X2)).cells), (10, (fv (Y1 * Y2)).cells), (11, (fv (Z1 * Z2)).cells)]) G9)) : ∀ G9, G.le G9 → ∀ s l, vplan Try.prog E35 G L35_0 (Q' .normal) p35_0_23 (S (SL.sets s [(2, qz), (3, qz), (4, qz), (5, qfn 51), (6, qfn 55), (7, qfn 48), (8, qz), (21, qfn 51), (23, fv X1), (25, fv X2), (27, qfn 51), (29, fv Y1), (31, fv Y2), (33, qfn 51), (35, fv Z1), (37, fv Z2), (26, fv (X1 * X2)), (32, fv (Y1 * Y2)), (38, fv (Z1 * Z2)), (9, qz), (10, qz), (11, qz)]) (AL.sets l [(2, lcells X1 Y1 Z1), (3, lcells X2 Y2 Z2), (4, zl.toArray), (8, (fv b).cells), (9, (fv (X1 * X2)).cells), (10, (fv (Y1 * Y2)).cells), (11, #[.int .u64 0, .int .u64 0, .int .u64 0, .int .u64 0])]) G9) := by
  intro G9 h9 s l
  dsimp only [SL.sets, AL.sets]
  refine p_alt ?_ p_no
  · refine s_lstoreF ?_
    refine o_nil ?_
    refine s_standL ?_
    exact k_trim [(2, qz), (3, qz), (4, qz), (5, qfn 51), (6, qfn 55), (7, qfn 48), (8, qz), (21, qfn 51), (23, fv X1), (25, fv X2), (27, qfn 51), (29, fv Y1), (31, fv Y2), (33, qfn 51), (35, fv Z1), (37, fv Z2), (26, fv (X1 * X2)), (32, fv (Y1 * Y2)), (38, fv (Z1 * Z2)), (9, qz), (10, qz), (11, qz)] [(2, lcells X1 Y1 Z1), (3, lcells X2 Y2 Z2), (4, zl.toArray), (8, (fv b).cells), (9, (fv (X1 * X2)).cells), (10, (fv (Y1 * Y2)).cells), (11, (fv (Z1 * Z2)).cells)] qhs qhl (r0_24 X1 Y1 Z1 X2 Y2 Z2 b tail _ qle)
theorem r0_22 (tail : ∀ G9, G.le G9 → ∀ s l, Q' .normal (S (SL.sets s [(2, qz), (3, qz), (4, qz), (5, qfn 51), (6, qfn 55), (7, qfn 48), (8, qz), (9, qz), (10, qz), (11, qz)]) (AL.sets l [(2, lcells X1 Y1 Z1), (3, lcells X2 Y2 Z2), (4, zl.toArray), (8, (fv b).cells), (9, (fv (X1 * X2)).cells), (10, (fv (Y1 * Y2)).cells), (11, (fv (Z1 * Z2)).cells)]) G9)) : ∀ G9, G.le G9 → ∀ s l, vplan Try.prog E35 G L35_0 (Q' .normal) p35_0_22 (S (SL.sets s [(2, qz), (3, qz), (4, qz), (5, qfn 51), (6, qfn 55), (7, qfn 48), (8, qz), (21, qfn 51), (23, fv X1), (25, fv X2), (27, qfn 51), (29, fv Y1), (31, fv Y2), (33, qfn 51), (35, fv Z1), (37, fv Z2), (26, fv (X1 * X2)), (32, fv (Y1 * Y2)), (38, fv (Z1 * Z2)), (9, qz), (10, qz), (11, qz)]) (AL.sets l [(2, lcells X1 Y1 Z1), (3, lcells X2 Y2 Z2), (4, zl.toArray), (8, (fv b).cells), (9, (fv (X1 * X2)).cells), (10, #[.int .u64 0, .int .u64 0, .int .u64 0, .int .u64 0]), (11, #[.int .u64 0, .int .u64 0, .int .u64 0, .int .u64 0])]) G9) := by
  intro G9 h9 s l
  dsimp only [SL.sets, AL.sets]
  refine p_alt ?_ p_no
  · refine s_lstoreF ?_
    refine o_nil ?_
    refine s_standL ?_
    exact k_trim [(2, qz), (3, qz), (4, qz), (5, qfn 51), (6, qfn 55), (7, qfn 48), (8, qz), (21, qfn 51), (23, fv X1), (25, fv X2), (27, qfn 51), (29, fv Y1), (31, fv Y2), (33, qfn 51), (35, fv Z1), (37, fv Z2), (26, fv (X1 * X2)), (32, fv (Y1 * Y2)), (38, fv (Z1 * Z2)), (9, qz), (10, qz), (11, qz)] [(2, lcells X1 Y1 Z1), (3, lcells X2 Y2 Z2), (4, zl.toArray), (8, (fv b).cells), (9, (fv (X1 * X2)).cells), (10, (fv (Y1 * Y2)).cells), (11, #[.int .u64 0, .int .u64 0, .int .u64 0, .int .u64 0])] qhs qhl (r0_23 X1 Y1 Z1 X2 Y2 Z2 b tail _ qle)
theorem r0_21 (tail : ∀ G9, G.le G9 → ∀ s l, Q' .normal (S (SL.sets s [(2, qz), (3, qz), (4, qz), (5, qfn 51), (6, qfn 55), (7, qfn 48), (8, qz), (9, qz), (10, qz), (11, qz)]) (AL.sets l [(2, lcells X1 Y1 Z1), (3, lcells X2 Y2 Z2), (4, zl.toArray), (8, (fv b).cells), (9, (fv (X1 * X2)).cells), (10, (fv (Y1 * Y2)).cells), (11, (fv (Z1 * Z2)).cells)]) G9)) : ∀ G9, G.le G9 → ∀ s l, vplan Try.prog E35 G L35_0 (Q' .normal) p35_0_21 (S (SL.sets s [(2, qz), (3, qz), (4, qz), (5, qfn 51), (6, qfn 55), (7, qfn 48), (8, qz), (21, qfn 51), (23, fv X1), (25, fv X2), (27, qfn 51), (29, fv Y1), (31, fv Y2), (33, qfn 51), (35, fv Z1), (37, fv Z2), (26, fv (X1 * X2)), (32, fv (Y1 * Y2)), (38, fv (Z1 * Z2)), (9, qz), (10, qz), (11, qz)]) (AL.sets l [(2, lcells X1 Y1 Z1), (3, lcells X2 Y2 Z2), (4, zl.toArray), (8, (fv b).cells), (9, #[.int .u64 0, .int .u64 0, .int .u64 0, .int .u64 0]), (10, #[.int .u64 0, .int .u64 0, .int .u64 0, .int .u64 0]), (11, #[.int .u64 0, .int .u64 0, .int .u64 0, .int .u64 0])]) G9) := by
  intro G9 h9 s l
  dsimp only [SL.sets, AL.sets]
  refine p_alt ?_ p_no
  · refine s_lstoreF ?_
    refine o_nil ?_
    refine s_standL ?_
    exact k_trim [(2, qz), (3, qz), (4, qz), (5, qfn 51), (6, qfn 55), (7, qfn 48), (8, qz), (21, qfn 51), (23, fv X1), (25, fv X2), (27, qfn 51), (29, fv Y1), (31, fv Y2), (33, qfn 51), (35, fv Z1), (37, fv Z2), (26, fv (X1 * X2)), (32, fv (Y1 * Y2)), (38, fv (Z1 * Z2)), (9, qz), (10, qz), (11, qz)] [(2, lcells X1 Y1 Z1), (3, lcells X2 Y2 Z2), (4, zl.toArray), (8, (fv b).cells), (9, (fv (X1 * X2)).cells), (10, #[.int .u64 0, .int .u64 0, .int .u64 0, .int .u64 0]), (11, #[.int .u64 0, .int .u64 0, .int .u64 0, .int .u64 0])] qhs qhl (r0_22 X1 Y1 Z1 X2 Y2 Z2 b tail _ qle)
theorem r0_20 (tail : ∀ G9, G.le G9 → ∀ s l, Q' .normal (S (SL.sets s [(2, qz), (3, qz), (4, qz), (5, qfn 51), (6, qfn 55), (7, qfn 48), (8, qz), (9, qz), (10, qz), (11, qz)]) (AL.sets l [(2, lcells X1 Y1 Z1), (3, lcells X2 Y2 Z2), (4, zl.toArray), (8, (fv b).cells), (9, (fv (X1 * X2)).cells), (10, (fv (Y1 * Y2)).cells), (11, (fv (Z1 * Z2)).cells)]) G9)) : ∀ G9, G.le G9 → ∀ s l, vplan Try.prog E35 G L35_0 (Q' .normal) p35_0_20 (S (SL.sets s [(2, qz), (3, qz), (4, qz), (5, qfn 51), (6, qfn 55), (7, qfn 48), (8, qz), (21, qfn 51), (23, fv X1), (25, fv X2), (27, qfn 51), (29, fv Y1), (31, fv Y2), (33, qfn 51), (35, fv Z1), (37, fv Z2), (26, fv (X1 * X2)), (32, fv (Y1 * Y2)), (38, fv (Z1 * Z2)), (9, qz), (10, qz)]) (AL.sets l [(2, lcells X1 Y1 Z1), (3, lcells X2 Y2 Z2), (4, zl.toArray), (8, (fv b).cells), (9, #[.int .u64 0, .int .u64 0, .int .u64 0, .int .u64 0]), (10, #[.int .u64 0, .int .u64 0, .int .u64 0, .int .u64 0])]) G9) := by
  intro G9 h9 s l
  dsimp only [SL.sets, AL.sets]
  refine p_alt ?_ p_no
  · refine s_lalloc ?_
    refine o_nil ?_
    refine s_standL ?_
    exact k_trim [(2, qz), (3, qz), (4, qz), (5, qfn 51), (6, qfn 55), (7, qfn 48), (8, qz), (21, qfn 51), (23, fv X1), (25, fv X2), (27, qfn 51), (29, fv Y1), (31, fv Y2), (33, qfn 51), (35, fv Z1), (37, fv Z2), (26, fv (X1 * X2)), (32, fv (Y1 * Y2)), (38, fv (Z1 * Z2)), (9, qz), (10, qz), (11, qz)] [(2, lcells X1 Y1 Z1), (3, lcells X2 Y2 Z2), (4, zl.toArray), (8, (fv b).cells), (9, #[.int .u64 0, .int .u64 0, .int .u64 0, .int .u64 0]), (10, #[.int .u64 0, .int .u64 0, .int .u64 0, .int .u64 0]), (11, #[.int .u64 0, .int .u64 0, .int .u64 0, .int .u64 0])] qhs qhl (r0_21 X1 Y1 Z1 X2 Y2 Z2 b tail _ qle)
theorem r0_25 (tail : ∀ G9, G.le G9 → ∀ s l, Q' .normal (S (SL.sets s [(2, qz), (3, qz), (4, qz), (5, qfn 51), (6, qfn 55), (7, qfn 48), (8, qz), (9, qz), (10, qz), (11, qz)]) (AL.sets l [(2, lcells X1 Y1 Z1), (3, lcells X2 Y2 Z2), (4, zl.toArray), (8, (fv b).cells), (9, (fv (X1 * X2)).cells), (10, (fv (Y1 * Y2)).cells), (11, (fv (Z1 * Z2)).cells)]) G9)) : ∀ G9, G.le G9 → ∀ s l, vplan Try.prog E35 G L35_0 (Q' .normal) p35_0_25 (S (SL.sets s [(2, qz), (3, qz), (4, qz), (5, qfn 51), (6, qfn 55), (7, qfn 48), (8, qz), (21, qfn 51), (23, fv X1), (25, fv X2), (27, qfn 51), (29, fv Y1), (31, fv Y2), (33, qfn 51), (35, fv Z1), (37, fv Z2), (26, fv (X1 * X2)), (32, fv (Y1 * Y2)), (38, fv (Z1 * Z2)), (9, qz), (11, qz)]) (AL.sets l [(2, lcells X1 Y1 Z1), (3, lcells X2 Y2 Z2), (4, zl.toArray), (8, (fv b).cells), (9, #[.int .u64 0, .int .u64 0, .int .u64 0, .int .u64 0]), (11, #[.int .u64 0, .int .u64 0, .int .u64 0, .int .u64 0])]) G9) := by
  intro G9 h9 s l
  dsimp only [SL.sets, AL.sets]
  refine p_alt ?_ p_no
  · refine s_lalloc ?_
    refine o_nil ?_
    refine s_standL ?_
    exact k_trim [(2, qz), (3, qz), (4, qz), (5, qfn 51), (6, qfn 55), (7, qfn 48), (8, qz), (21, qfn 51), (23, fv X1), (25, fv X2), (27, qfn 51), (29, fv Y1), (31, fv Y2), (33, qfn 51), (35, fv Z1), (37, fv Z2), (26, fv (X1 * X2)), (32, fv (Y1 * Y2)), (38, fv (Z1 * Z2)), (9, qz), (10, qz), (11, qz)] [(2, lcells X1 Y1 Z1), (3, lcells X2 Y2 Z2), (4, zl.toArray), (8, (fv b).cells), (9, #[.int .u64 0, .int .u64 0, .int .u64 0, .int .u64 0]), (10, #[.int .u64 0, .int .u64 0, .int .u64 0, .int .u64 0]), (11, #[.int .u64 0, .int .u64 0, .int .u64 0, .int .u64 0])] qhs qhl (r0_21 X1 Y1 Z1 X2 Y2 Z2 b tail _ qle)
theorem r0_19 (tail : ∀ G9, G.le G9 → ∀ s l, Q' .normal (S (SL.sets s [(2, qz), (3, qz), (4, qz), (5, qfn 51), (6, qfn 55), (7, qfn 48), (8, qz), (9, qz), (10, qz), (11, qz)]) (AL.sets l [(2, lcells X1 Y1 Z1), (3, lcells X2 Y2 Z2), (4, zl.toArray), (8, (fv b).cells), (9, (fv (X1 * X2)).cells), (10, (fv (Y1 * Y2)).cells), (11, (fv (Z1 * Z2)).cells)]) G9)) : ∀ G9, G.le G9 → ∀ s l, vplan Try.prog E35 G L35_0 (Q' .normal) p35_0_19 (S (SL.sets s [(2, qz), (3, qz), (4, qz), (5, qfn 51), (6, qfn 55), (7, qfn 48), (8, qz), (21, qfn 51), (23, fv X1), (25, fv X2), (27, qfn 51), (29, fv Y1), (31, fv Y2), (33, qfn 51), (35, fv Z1), (37, fv Z2), (26, fv (X1 * X2)), (32, fv (Y1 * Y2)), (38, fv (Z1 * Z2)), (9, qz)]) (AL.sets l [(2, lcells X1 Y1 Z1), (3, lcells X2 Y2 Z2), (4, zl.toArray), (8, (fv b).cells), (9, #[.int .u64 0, .int .u64 0, .int .u64 0, .int .u64 0])]) G9) := by
  intro G9 h9 s l
  dsimp only [SL.sets, AL.sets]
  refine p_alt ?_ ?_
  · refine s_lalloc ?_
    refine o_nil ?_
    refine s_standL ?_
    exact k_trim [(2, qz), (3, qz), (4, qz), (5, qfn 51), (6, qfn 55), (7, qfn 48), (8, qz), (21, qfn 51), (23, fv X1), (25, fv X2), (27, qfn 51), (29, fv Y1), (31, fv Y2), (33, qfn 51), (35, fv Z1), (37, fv Z2), (26, fv (X1 * X2)), (32, fv (Y1 * Y2)), (38, fv (Z1 * Z2)), (9, qz), (10, qz)] [(2, lcells X1 Y1 Z1), (3, lcells X2 Y2 Z2), (4, zl.toArray), (8, (fv b).cells), (9, #[.int .u64 0, .int .u64 0, .int .u64 0, .int .u64 0]), (10, #[.int .u64 0, .int .u64 0, .int .u64 0, .int .u64 0])] qhs qhl (r0_20 X1 Y1 Z1 X2 Y2 Z2 b tail _ qle)
  refine p_alt ?_ p_no
  · refine s_lalloc ?_
    refine o_nil ?_
    refine s_standL ?_
    exact k_trim [(2, qz), (3, qz), (4, qz), (5, qfn 51), (6, qfn 55), (7, qfn 48), (8, qz), (21, qfn 51), (23, fv X1), (25, fv X2), (27, qfn 51), (29, fv Y1), (31, fv Y2), (33, qfn 51), (35, fv Z1), (37, fv Z2), (26, fv (X1 * X2)), (32, fv (Y1 * Y2)), (38, fv (Z1 * Z2)), (9, qz), (11, qz)] [(2, lcells X1 Y1 Z1), (3, lcells X2 Y2 Z2), (4, zl.toArray), (8, (fv b).cells), (9, #[.int .u64 0, .int .u64 0, .int .u64 0, .int .u64 0]), (11, #[.int .u64 0, .int .u64 0, .int .u64 0, .int .u64 0])] qhs qhl (r0_25 X1 Y1 Z1 X2 Y2 Z2 b tail _ qle)
theorem r0_27 (tail : ∀ G9, G.le G9 → ∀ s l, Q' .normal (S (SL.sets s [(2, qz), (3, qz), (4, qz), (5, qfn 51), (6, qfn 55), (7, qfn 48), (8, qz), (9, qz), (10, qz), (11, qz)]) (AL.sets l [(2, lcells X1 Y1 Z1), (3, lcells X2 Y2 Z2), (4, zl.toArray), (8, (fv b).cells), (9, (fv (X1 * X2)).cells), (10, (fv (Y1 * Y2)).cells), (11, (fv (Z1 * Z2)).cells)]) G9)) : ∀ G9, G.le G9 → ∀ s l, vplan Try.prog E35 G L35_0 (Q' .normal) p35_0_27 (S (SL.sets s [(2, qz), (3, qz), (4, qz), (5, qfn 51), (6, qfn 55), (7, qfn 48), (8, qz), (21, qfn 51), (23, fv X1), (25, fv X2), (27, qfn 51), (29, fv Y1), (31, fv Y2), (33, qfn 51), (35, fv Z1), (37, fv Z2), (26, fv (X1 * X2)), (32, fv (Y1 * Y2)), (38, fv (Z1 * Z2)), (10, qz), (11, qz)]) (AL.sets l [(2, lcells X1 Y1 Z1), (3, lcells X2 Y2 Z2), (4, zl.toArray), (8, (fv b).cells), (10, #[.int .u64 0, .int .u64 0, .int .u64 0, .int .u64 0]), (11, #[.int .u64 0, .int .u64 0, .int .u64 0, .int .u64 0])]) G9) := by
  intro G9 h9 s l
  dsimp only [SL.sets, AL.sets]
  refine p_alt ?_ p_no
  · refine s_lalloc ?_
    refine o_nil ?_
    refine s_standL ?_
    exact k_trim [(2, qz), (3, qz), (4, qz), (5, qfn 51), (6, qfn 55), (7, qfn 48), (8, qz), (21, qfn 51), (23, fv X1), (25, fv X2), (27, qfn 51), (29, fv Y1), (31, fv Y2), (33, qfn 51), (35, fv Z1), (37, fv Z2), (26, fv (X1 * X2)), (32, fv (Y1 * Y2)), (38, fv (Z1 * Z2)), (9, qz), (10, qz), (11, qz)] [(2, lcells X1 Y1 Z1), (3, lcells X2 Y2 Z2), (4, zl.toArray), (8, (fv b).cells), (9, #[.int .u64 0, .int .u64 0, .int .u64 0, .int .u64 0]), (10, #[.int .u64 0, .int .u64 0, .int .u64 0, .int .u64 0]), (11, #[.int .u64 0, .int .u64 0, .int .u64 0, .int .u64 0])] qhs qhl (r0_21 X1 Y1 Z1 X2 Y2 Z2 b tail _ qle)
theorem r0_26 (tail : ∀ G9, G.le G9 → ∀ s l, Q' .normal (S (SL.sets s [(2, qz), (3, qz), (4, qz), (5, qfn 51), (6, qfn 55), (7, qfn 48), (8, qz), (9, qz), (10, qz), (11, qz)]) (AL.sets l [(2, lcells X1 Y1 Z1), (3, lcells X2 Y2 Z2), (4, zl.toArray), (8, (fv b).cells), (9, (fv (X1 * X2)).cells), (10, (fv (Y1 * Y2)).cells), (11, (fv (Z1 * Z2)).cells)]) G9)) : ∀ G9, G.le G9 → ∀ s l, vplan Try.prog E35 G L35_0 (Q' .normal) p35_0_26 (S (SL.sets s [(2, qz), (3, qz), (4, qz), (5, qfn 51), (6, qfn 55), (7, qfn 48), (8, qz), (21, qfn 51), (23, fv X1), (25, fv X2), (27, qfn 51), (29, fv Y1), (31, fv Y2), (33, qfn 51), (35, fv Z1), (37, fv Z2), (26, fv (X1 * X2)), (32, fv (Y1 * Y2)), (38, fv (Z1 * Z2)), (10, qz)]) (AL.sets l [(2, lcells X1 Y1 Z1), (3, lcells X2 Y2 Z2), (4, zl.toArray), (8, (fv b).cells), (10, #[.int .u64 0, .int .u64 0, .int .u64 0, .int .u64 0])]) G9) := by
  intro G9 h9 s l
  dsimp only [SL.sets, AL.sets]
  refine p_alt ?_ ?_
  · refine s_lalloc ?_
    refine o_nil ?_
    refine s_standL ?_
    exact k_trim [(2, qz), (3, qz), (4, qz), (5, qfn 51), (6, qfn 55), (7, qfn 48), (8, qz), (21, qfn 51), (23, fv X1), (25, fv X2), (27, qfn 51), (29, fv Y1), (31, fv Y2), (33, qfn 51), (35, fv Z1), (37, fv Z2), (26, fv (X1 * X2)), (32, fv (Y1 * Y2)), (38, fv (Z1 * Z2)), (9, qz), (10, qz)] [(2, lcells X1 Y1 Z1), (3, lcells X2 Y2 Z2), (4, zl.toArray), (8, (fv b).cells), (9, #[.int .u64 0, .int .u64 0, .int .u64 0, .int .u64 0]), (10, #[.int .u64 0, .int .u64 0, .int .u64 0, .int .u64 0])] qhs qhl (r0_20 X1 Y1 Z1 X2 Y2 Z2 b tail _ qle)
  refine p_alt ?_ p_no
  · refine s_lalloc ?_
    refine o_nil ?_
    refine s_standL ?_
    exact k_trim [(2, qz), (3, qz), (4, qz), (5, qfn 51), (6, qfn 55), (7, qfn 48), (8, qz), (21, qfn 51), (23, fv X1), (25, fv X2), (27, qfn 51), (29, fv Y1), (31, fv Y2), (33, qfn 51), (35, fv Z1), (37, fv Z2), (26, fv (X1 * X2)), (32, fv (Y1 * Y2)), (38, fv (Z1 * Z2)), (10, qz), (11, qz)] [(2, lcells X1 Y1 Z1), (3, lcells X2 Y2 Z2), (4, zl.toArray), (8, (fv b).cells), (10, #[.int .u64 0, .int .u64 0, .int .u64 0, .int .u64 0]), (11, #[.int .u64 0, .int .u64 0, .int .u64 0, .int .u64 0])] qhs qhl (r0_27 X1 Y1 Z1 X2 Y2 Z2 b tail _ qle)
theorem r0_28 (tail : ∀ G9, G.le G9 → ∀ s l, Q' .normal (S (SL.sets s [(2, qz), (3, qz), (4, qz), (5, qfn 51), (6, qfn 55), (7, qfn 48), (8, qz), (9, qz), (10, qz), (11, qz)]) (AL.sets l [(2, lcells X1 Y1 Z1), (3, lcells X2 Y2 Z2), (4, zl.toArray), (8, (fv b).cells), (9, (fv (X1 * X2)).cells), (10, (fv (Y1 * Y2)).cells), (11, (fv (Z1 * Z2)).cells)]) G9)) : ∀ G9, G.le G9 → ∀ s l, vplan Try.prog E35 G L35_0 (Q' .normal) p35_0_28 (S (SL.sets s [(2, qz), (3, qz), (4, qz), (5, qfn 51), (6, qfn 55), (7, qfn 48), (8, qz), (21, qfn 51), (23, fv X1), (25, fv X2), (27, qfn 51), (29, fv Y1), (31, fv Y2), (33, qfn 51), (35, fv Z1), (37, fv Z2), (26, fv (X1 * X2)), (32, fv (Y1 * Y2)), (38, fv (Z1 * Z2)), (11, qz)]) (AL.sets l [(2, lcells X1 Y1 Z1), (3, lcells X2 Y2 Z2), (4, zl.toArray), (8, (fv b).cells), (11, #[.int .u64 0, .int .u64 0, .int .u64 0, .int .u64 0])]) G9) := by
  intro G9 h9 s l
  dsimp only [SL.sets, AL.sets]
  refine p_alt ?_ ?_
  · refine s_lalloc ?_
    refine o_nil ?_
    refine s_standL ?_
    exact k_trim [(2, qz), (3, qz), (4, qz), (5, qfn 51), (6, qfn 55), (7, qfn 48), (8, qz), (21, qfn 51), (23, fv X1), (25, fv X2), (27, qfn 51), (29, fv Y1), (31, fv Y2), (33, qfn 51), (35, fv Z1), (37, fv Z2), (26, fv (X1 * X2)), (32, fv (Y1 * Y2)), (38, fv (Z1 * Z2)), (9, qz), (11, qz)] [(2, lcells X1 Y1 Z1), (3, lcells X2 Y2 Z2), (4, zl.toArray), (8, (fv b).cells), (9, #[.int .u64 0, .int .u64 0, .int .u64 0, .int .u64 0]), (11, #[.int .u64 0, .int .u64 0, .int .u64 0, .int .u64 0])] qhs qhl (r0_25 X1 Y1 Z1 X2 Y2 Z2 b tail _ qle)
  refine p_alt ?_ p_no
  · refine s_lalloc ?_
    refine o_nil ?_
    refine s_standL ?_
    exact k_trim [(2, qz), (3, qz), (4, qz), (5, qfn 51), (6, qfn 55), (7, qfn 48), (8, qz), (21, qfn 51), (23, fv X1), (25, fv X2), (27, qfn 51), (29, fv Y1), (31, fv Y2), (33, qfn 51), (35, fv Z1), (37, fv Z2), (26, fv (X1 * X2)), (32, fv (Y1 * Y2)), (38, fv (Z1 * Z2)), (10, qz), (11, qz)] [(2, lcells X1 Y1 Z1), (3, lcells X2 Y2 Z2), (4, zl.toArray), (8, (fv b).cells), (10, #[.int .u64 0, .int .u64 0, .int .u64 0, .int .u64 0]), (11, #[.int .u64 0, .int .u64 0, .int .u64 0, .int .u64 0])] qhs qhl (r0_27 X1 Y1 Z1 X2 Y2 Z2 b tail _ qle)
theorem r0_18 (tail : ∀ G9, G.le G9 → ∀ s l, Q' .normal (S (SL.sets s [(2, qz), (3, qz), (4, qz), (5, qfn 51), (6, qfn 55), (7, qfn 48), (8, qz), (9, qz), (10, qz), (11, qz)]) (AL.sets l [(2, lcells X1 Y1 Z1), (3, lcells X2 Y2 Z2), (4, zl.toArray), (8, (fv b).cells), (9, (fv (X1 * X2)).cells), (10, (fv (Y1 * Y2)).cells), (11, (fv (Z1 * Z2)).cells)]) G9)) : ∀ G9, G.le G9 → ∀ s l, vplan Try.prog E35 G L35_0 (Q' .normal) p35_0_18 (S (SL.sets s [(2, qz), (3, qz), (4, qz), (5, qfn 51), (6, qfn 55), (7, qfn 48), (8, qz), (21, qfn 51), (23, fv X1), (25, fv X2), (27, qfn 51), (29, fv Y1), (31, fv Y2), (33, qfn 51), (35, fv Z1), (37, fv Z2), (26, fv (X1 * X2)), (32, fv (Y1 * Y2)), (38, fv (Z1 * Z2))]) (AL.sets l [(2, lcells X1 Y1 Z1), (3, lcells X2 Y2 Z2), (4, zl.toArray), (8, (fv b).cells)]) G9) := by
  intro G9 h9 s l
  dsimp only [SL.sets, AL.sets]
  refine p_alt ?_ ?_
  · refine s_lalloc ?_
    refine o_nil ?_
    refine s_standL ?_
    exact k_trim [(2, qz), (3, qz), (4, qz), (5, qfn 51), (6, qfn 55), (7, qfn 48), (8, qz), (21, qfn 51), (23, fv X1), (25, fv X2), (27, qfn 51), (29, fv Y1), (31, fv Y2), (33, qfn 51), (35, fv Z1), (37, fv Z2), (26, fv (X1 * X2)), (32, fv (Y1 * Y2)), (38, fv (Z1 * Z2)), (9, qz)] [(2, lcells X1 Y1 Z1), (3, lcells X2 Y2 Z2), (4, zl.toArray), (8, (fv b).cells), (9, #[.int .u64 0, .int .u64 0, .int .u64 0, .int .u64 0])] qhs qhl (r0_19 X1 Y1 Z1 X2 Y2 Z2 b tail _ qle)
  refine p_alt ?_ ?_
  · refine s_lalloc ?_
    refine o_nil ?_
    refine s_standL ?_
    exact k_trim [(2, qz), (3, qz), (4, qz), (5, qfn 51), (6, qfn 55), (7, qfn 48), (8, qz), (21, qfn 51), (23, fv X1), (25, fv X2), (27, qfn 51), (29, fv Y1), (31, fv Y2), (33, qfn 51), (35, fv Z1), (37, fv Z2), (26, fv (X1 * X2)), (32, fv (Y1 * Y2)), (38, fv (Z1 * Z2)), (10, qz)] [(2, lcells X1 Y1 Z1), (3, lcells X2 Y2 Z2), (4, zl.toArray), (8, (fv b).cells), (10, #[.int .u64 0, .int .u64 0, .int .u64 0, .int .u64 0])] qhs qhl (r0_26 X1 Y1 Z1 X2 Y2 Z2 b tail _ qle)
  refine p_alt ?_ p_no
  · refine s_lalloc ?_
    refine o_nil ?_
    refine s_standL ?_
    exact k_trim [(2, qz), (3, qz), (4, qz), (5, qfn 51), (6, qfn 55), (7, qfn 48), (8, qz), (21, qfn 51), (23, fv X1), (25, fv X2), (27, qfn 51), (29, fv Y1), (31, fv Y2), (33, qfn 51), (35, fv Z1), (37, fv Z2), (26, fv (X1 * X2)), (32, fv (Y1 * Y2)), (38, fv (Z1 * Z2)), (11, qz)] [(2, lcells X1 Y1 Z1), (3, lcells X2 Y2 Z2), (4, zl.toArray), (8, (fv b).cells), (11, #[.int .u64 0, .int .u64 0, .int .u64 0, .int .u64 0])] qhs qhl (r0_28 X1 Y1 Z1 X2 Y2 Z2 b tail _ qle)
theorem r0_31 (tail : ∀ G9, G.le G9 → ∀ s l, Q' .normal (S (SL.sets s [(2, qz), (3, qz), (4, qz), (5, qfn 51), (6, qfn 55), (7, qfn 48), (8, qz), (9, qz), (10, qz), (11, qz)]) (AL.sets l [(2, lcells X1 Y1 Z1), (3, lcells X2 Y2 Z2), (4, zl.toArray), (8, (fv b).cells), (9, (fv (X1 * X2)).cells), (10, (fv (Y1 * Y2)).cells), (11, (fv (Z1 * Z2)).cells)]) G9)) : ∀ G9, G.le G9 → ∀ s l, vplan Try.prog E35 G L35_0 (Q' .normal) p35_0_31 (S (SL.sets s [(2, qz), (3, qz), (4, qz), (5, qfn 51), (6, qfn 55), (7, qfn 48), (8, qz), (21, qfn 51), (23, fv X1), (25, fv X2), (27, qfn 51), (29, fv Y1), (31, fv Y2), (33, qfn 51), (35, fv Z1), (37, fv Z2), (26, fv (X1 * X2)), (32, fv (Y1 * Y2)), (9, qz), (10, qz), (11, qz)]) (AL.sets l [(2, lcells X1 Y1 Z1), (3, lcells X2 Y2 Z2), (4, zl.toArray), (8, (fv b).cells), (9, #[.int .u64 0, .int .u64 0, .int .u64 0, .int .u64 0]), (10, #[.int .u64 0, .int .u64 0, .int .u64 0, .int .u64 0]), (11, #[.int .u64 0, .int .u64 0, .int .u64 0, .int .u64 0])]) G9) := by
  intro G9 h9 s l
  dsimp only [SL.sets, AL.sets]
  refine p_alt ?_ p_no
  · refine s_cvT ?_
    intro G' hle
    refine o_nil ?_
    refine s_stand ?_
    exact k_trim [(2, qz), (3, qz), (4, qz), (5, qfn 51), (6, qfn 55), (7, qfn 48), (8, qz), (21, qfn 51), (23, fv X1), (25, fv X2), (27, qfn 51), (29, fv Y1), (31, fv Y2), (33, qfn 51), (35, fv Z1), (37, fv Z2), (26, fv (X1 * X2)), (32, fv (Y1 * Y2)), (38, fv (Z1 * Z2)), (9, qz), (10, qz), (11, qz)] [(2, lcells X1 Y1 Z1), (3, lcells X2 Y2 Z2), (4, zl.toArray), (8, (fv b).cells), (9, #[.int .u64 0, .int .u64 0, .int .u64 0, .int .u64 0]), (10, #[.int .u64 0, .int .u64 0, .int .u64 0, .int .u64 0]), (11, #[.int .u64 0, .int .u64 0, .int .u64 0, .int .u64 0])] qhs qhl (r0_21 X1 Y1 Z1 X2 Y2 Z2 b tail _ qle)
theorem r0_30 (tail : ∀ G9, G.le G9 → ∀ s l, Q' .normal (S (SL.sets s [(2, qz), (3, qz), (4, qz), (5, qfn 51), (6, qfn 55), (7, qfn 48), (8, qz), (9, qz), (10, qz), (11, qz)]) (AL.sets l [(2, lcells X1 Y1 Z1), (3, lcells X2 Y2 Z2), (4, zl.toArray), (8, (fv b).cells), (9, (fv (X1 * X2)).cells), (10, (fv (Y1 * Y2)).cells), (11, (fv (Z1 * Z2)).cells)]) G9)) : ∀ G9, G.le G9 → ∀ s l, vplan Try.prog E35 G L35_0 (Q' .normal) p35_0_30 (S (SL.sets s [(2, qz), (3, qz), (4, qz), (5, qfn 51), (6, qfn 55), (7, qfn 48), (8, qz), (21, qfn 51), (23, fv X1), (25, fv X2), (27, qfn 51), (29, fv Y1), (31, fv Y2), (33, qfn 51), (35, fv Z1), (37, fv Z2), (26, fv (X1 * X2)), (32, fv (Y1 * Y2)), (9, qz), (10, qz)]) (AL.sets l [(2, lcells X1 Y1 Z1), (3, lcells X2 Y2 Z2), (4, zl.toArray), (8, (fv b).cells), (9, #[.int .u64 0, .int .u64 0, .int .u64 0, .int .u64 0]), (10, #[.int .u64 0, .int .u64 0, .int .u64 0, .int .u64 0])]) G9) := by
  intro G9 h9 s l
  dsimp only [SL.sets, AL.sets]
  refine p_alt ?_ ?_
  · refine s_cvT ?_
    intro G' hle
    refine o_nil ?_
    refine s_stand ?_
    exact k_trim [(2, qz), (3, qz), (4, qz), (5, qfn 51), (6, qfn 55), (7, qfn 48), (8, qz), (21, qfn 51), (23, fv X1), (25, fv X2), (27, qfn 51), (29, fv Y1), (31, fv Y2), (33, qfn 51), (35, fv Z1), (37, fv Z2), (26, fv (X1 * X2)), (32, fv (Y1 * Y2)), (38, fv (Z1 * Z2)), (9, qz), (10, qz)] [(2, lcells X1 Y1 Z1), (3, lcells X2 Y2 Z2), (4, zl.toArray), (8, (fv b).cells), (9, #[.int .u64 0, .int .u64 0, .int .u64 0, .int .u64 0]), (10, #[.int .u64 0, .int .u64 0, .int .u64 0, .int .u64 0])] qhs qhl (r0_20 X1 Y1 Z1 X2 Y2 Z2 b tail _ qle)
  refine p_alt ?_ p_no
  · refine s_lalloc ?_
    refine o_nil ?_
    refine s_standL ?_
    exact k_trim [(2, qz), (3, qz), (4, qz), (5, qfn 51), (6, qfn 55), (7, qfn 48), (8, qz), (21, qfn 51), (23, fv X1), (25, fv X2), (27, qfn 51), (29, fv Y1), (31, fv Y2), (33, qfn 51), (35, fv Z1), (37, fv Z2), (26, fv (X1 * X2)), (32, fv (Y1 * Y2)), (9, qz), (10, qz), (11, qz)] [(2, lcells X1 Y1 Z1), (3, lcells X2 Y2 Z2), (4, zl.toArray), (8, (fv b).cells), (9, #[.int .u64 0, .int .u64 0, .int .u64 0, .int .u64 0]), (10, #[.int .u64 0, .int .u64 0, .int .u64 0, .int .u64 0]), (11, #[.int .u64 0, .int .u64 0, .int .u64 0, .int .u64 0])] qhs qhl (r0_31 X1 Y1 Z1 X2 Y2 Z2 b tail _ qle)
theorem r0_32 (tail : ∀ G9, G.le G9 → ∀ s l, Q' .normal (S (SL.sets s [(2, qz), (3, qz), (4, qz), (5, qfn 51), (6, qfn 55), (7, qfn 48), (8, qz), (9, qz), (10, qz), (11, qz)]) (AL.sets l [(2, lcells X1 Y1 Z1), (3, lcells X2 Y2 Z2), (4, zl.toArray), (8, (fv b).cells), (9, (fv (X1 * X2)).cells), (10, (fv (Y1 * Y2)).cells), (11, (fv (Z1 * Z2)).cells)]) G9)) : ∀ G9, G.le G9 → ∀ s l, vplan Try.prog E35 G L35_0 (Q' .normal) p35_0_32 (S (SL.sets s [(2, qz), (3, qz), (4, qz), (5, qfn 51), (6, qfn 55), (7, qfn 48), (8, qz), (21, qfn 51), (23, fv X1), (25, fv X2), (27, qfn 51), (29, fv Y1), (31, fv Y2), (33, qfn 51), (35, fv Z1), (37, fv Z2), (26, fv (X1 * X2)), (32, fv (Y1 * Y2)), (9, qz), (11, qz)]) (AL.sets l [(2, lcells X1 Y1 Z1), (3, lcells X2 Y2 Z2), (4, zl.toArray), (8, (fv b).cells), (9, #[.int .u64 0, .int .u64 0, .int .u64 0, .int .u64 0]), (11, #[.int .u64 0, .int .u64 0, .int .u64 0, .int .u64 0])]) G9) := by
  intro G9 h9 s l
  dsimp only [SL.sets, AL.sets]
  refine p_alt ?_ ?_
  · refine s_cvT ?_
    intro G' hle
    refine o_nil ?_
    refine s_stand ?_
    exact k_trim [(2, qz), (3, qz), (4, qz), (5, qfn 51), (6, qfn 55), (7, qfn 48), (8, qz), (21, qfn 51), (23, fv X1), (25, fv X2), (27, qfn 51), (29, fv Y1), (31, fv Y2), (33, qfn 51), (35, fv Z1), (37, fv Z2), (26, fv (X1 * X2)), (32, fv (Y1 * Y2)), (38, fv (Z1 * Z2)), (9, qz), (11, qz)] [(2, lcells X1 Y1 Z1), (3, lcells X2 Y2 Z2), (4, zl.toArray), (8, (fv b).cells), (9, #[.int .u64 0, .int .u64 0, .int .u64 0, .int .u64 0]), (11, #[.int .u64 0, .int .u64 0, .int .u64 0, .int .u64 0])] qhs qhl (r0_25 X1 Y1 Z1 X2 Y2 Z2 b tail _ qle)
  refine p_alt ?_ p_no
  · refine s_lalloc ?_
    refine o_nil ?_
    refine s_standL ?_
    exact k_trim [(2, qz), (3, qz), (4, qz), (5, qfn 51), (6, qfn 55), (7, qfn 48), (8, qz), (21, qfn 51), (23, fv X1), (25, fv X2), (27, qfn 51), (29, fv Y1), (31, fv Y2), (33, qfn 51), (35, fv Z1), (37, fv Z2), (26, fv (X1 * X2)), (32, fv (Y1 * Y2)), (9, qz), (10, qz), (11, qz)] [(2, lcells X1 Y1 Z1), (3, lcells X2 Y2 Z2), (4, zl.toArray), (8, (fv b).cells), (9, #[.int .u64 0, .int .u64 0, .int .u64 0, .int .u64 0]), (10, #[.int .u64 0, .int .u64 0, .int .u64 0, .int .u64 0]), (11, #[.int .u64 0, .int .u64 0, .int .u64 0, .int .u64 0])] qhs qhl (r0_31 X1 Y1 Z1 X2 Y2 Z2 b tail _ qle)
theorem r0_29 (tail : ∀ G9, G.le G9 → ∀ s l, Q' .normal (S (SL.sets s [(2, qz), (3, qz), (4, qz), (5, qfn 51), (6, qfn 55), (7, qfn 48), (8, qz), (9, qz), (10, qz), (11, qz)]) (AL.sets l [(2, lcells X1 Y1 Z1), (3, lcells X2 Y2 Z2), (4, zl.toArray), (8, (fv b).cells), (9, (fv (X1 * X2)).cells), (10, (fv (Y1 * Y2)).cells), (11, (fv (Z1 * Z2)).cells)]) G9)) : ∀ G9, G.le G9 → ∀ s l, vplan Try.prog E35 G L35_0 (Q' .normal) p35_0_29 (S (SL.sets s [(2, qz), (3, qz), (4, qz), (5, qfn 51), (6, qfn 55), (7, qfn 48), (8, qz), (21, qfn 51), (23, fv X1), (25, fv X2), (27, qfn 51), (29, fv Y1), (31, fv Y2), (33, qfn 51), (35, fv Z1), (37, fv Z2), (26, fv (X1 * X2)), (32, fv (Y1 * Y2)), (9, qz)]) (AL.sets l [(2, lcells X1 Y1 Z1), (3, lcells X2 Y2 Z2), (4, zl.toArray), (8, (fv b).cells), (9, #[.int .u64 0, .int .u64 0, .int .u64 0, .int .u64 0])]) G9) := by
  intro G9 h9 s l
  dsimp only [SL.sets, AL.sets]
  refine p_alt ?_ ?_
  · refine s_cvT ?_
    intro G' hle
    refine o_nil ?_
    refine s_stand ?_
    exact k_trim [(2, qz), (3, qz), (4, qz), (5, qfn 51), (6, qfn 55), (7, qfn 48), (8, qz), (21, qfn 51), (23, fv X1), (25, fv X2), (27, qfn 51), (29, fv Y1), (31, fv Y2), (33, qfn 51), (35, fv Z1), (37, fv Z2), (26, fv (X1 * X2)), (32, fv (Y1 * Y2)), (38, fv (Z1 * Z2)), (9, qz)] [(2, lcells X1 Y1 Z1), (3, lcells X2 Y2 Z2), (4, zl.toArray), (8, (fv b).cells), (9, #[.int .u64 0, .int .u64 0, .int .u64 0, .int .u64 0])] qhs qhl (r0_19 X1 Y1 Z1 X2 Y2 Z2 b tail _ qle)
  refine p_alt ?_ ?_
  · refine s_lalloc ?_
    refine o_nil ?_
    refine s_standL ?_
    exact k_trim [(2, qz), (3, qz), (4, qz), (5, qfn 51), (6, qfn 55), (7, qfn 48), (8, qz), (21, qfn 51), (23, fv X1), (25, fv X2), (27, qfn 51), (29, fv Y1), (31, fv Y2), (33, qfn 51), (35, fv Z1), (37, fv Z2), (26, fv (X1 * X2)), (32, fv (Y1 * Y2)), (9, qz), (10, qz)] [(2, lcells X1 Y1 Z1), (3, lcells X2 Y2 Z2), (4, zl.toArray), (8, (fv b).cells), (9, #[.int .u64 0, .int .u64 0, .int .u64 0, .int .u64 0]), (10, #[.int .u64 0, .int .u64 0, .int .u64 0, .int .u64 0])] qhs qhl (r0_30 X1 Y1 Z1 X2 Y2 Z2 b tail _ qle)
  refine p_alt ?_ p_no
  · refine s_lalloc ?_
    refine o_nil ?_
    refine s_standL ?_
    exact k_trim [(2, qz), (3, qz), (4, qz), (5, qfn 51), (6, qfn 55), (7, qfn 48), (8, qz), (21, qfn 51), (23, fv X1), (25, fv X2), (27, qfn 51), (29, fv Y1), (31, fv Y2), (33, qfn 51), (35, fv Z1), (37, fv Z2), (26, fv (X1 * X2)), (32, fv (Y1 * Y2)), (9, qz), (11, qz)] [(2, lcells X1 Y1 Z1), (3, lcells X2 Y2 Z2), (4, zl.toArray), (8, (fv b).cells), (9, #[.int .u64 0, .int .u64 0, .int .u64 0, .int .u64 0]), (11, #[.int .u64 0, .int .u64 0, .int .u64 0, .int .u64 0])] qhs qhl (r0_32 X1 Y1 Z1 X2 Y2 Z2 b tail _ qle)
theorem r0_34 (tail : ∀ G9, G.le G9 → ∀ s l, Q' .normal (S (SL.sets s [(2, qz), (3, qz), (4, qz), (5, qfn 51), (6, qfn 55), (7, qfn 48), (8, qz), (9, qz), (10, qz), (11, qz)]) (AL.sets l [(2, lcells X1 Y1 Z1), (3, lcells X2 Y2 Z2), (4, zl.toArray), (8, (fv b).cells), (9, (fv (X1 * X2)).cells), (10, (fv (Y1 * Y2)).cells), (11, (fv (Z1 * Z2)).cells)]) G9)) : ∀ G9, G.le G9 → ∀ s l, vplan Try.prog E35 G L35_0 (Q' .normal) p35_0_34 (S (SL.sets s [(2, qz), (3, qz), (4, qz), (5, qfn 51), (6, qfn 55), (7, qfn 48), (8, qz), (21, qfn 51), (23, fv X1), (25, fv X2), (27, qfn 51), (29, fv Y1), (31, fv Y2), (33, qfn 51), (35, fv Z1), (37, fv Z2), (26, fv (X1 * X2)), (32, fv (Y1 * Y2)), (10, qz), (11, qz)]) (AL.sets l [(2, lcells X1 Y1 Z1), (3, lcells X2 Y2 Z2), (4, zl.toArray), (8, (fv b).cells), (10, #[.int .u64 0, .int .u64 0, .int .u64 0, .int .u64 0]), (11, #[.int .u64 0, .int .u64 0, .int .u64 0, .int .u64 0])]) G9) := by
  intro G9 h9 s l
  dsimp only [SL.sets, AL.sets]
  refine p_alt ?_ ?_
  · refine s_cvT ?_
    intro G' hle
    refine o_nil ?_
    refine s_stand ?_
    exact k_trim [(2, qz), (3, qz), (4, qz), (5, qfn 51), (6, qfn 55), (7, qfn 48), (8, qz), (21, qfn 51), (23, fv X1), (25, fv X2), (27, qfn 51), (29, fv Y1), (31, fv Y2), (33, qfn 51), (35, fv Z1), (37, fv Z2), (26, fv (X1 * X2)), (32, fv (Y1 * Y2)), (38, fv (Z1 * Z2)), (10, qz), (11, qz)] [(2, lcells X1 Y1 Z1), (3, lcells X2 Y2 Z2), (4, zl.toArray), (8, (fv b).cells), (10, #[.int .u64 0, .int .u64 0, .int .u64 0, .int .u64 0]), (11, #[.int .u64 0, .int .u64 0, .int .u64 0, .int .u64 0])] qhs qhl (r0_27 X1 Y1 Z1 X2 Y2 Z2 b tail _ qle)
  refine p_alt ?_ p_no
  · refine s_lalloc ?_
    refine o_nil ?_
    refine s_standL ?_
    exact k_trim [(2, qz), (3, qz), (4, qz), (5, qfn 51), (6, qfn 55), (7, qfn 48), (8, qz), (21, qfn 51), (23, fv X1), (25, fv X2), (27, qfn 51), (29, fv Y1), (31, fv Y2), (33, qfn 51), (35, fv Z1), (37, fv Z2), (26, fv (X1 * X2)), (32, fv (Y1 * Y2)), (9, qz), (10, qz), (11, qz)] [(2, lcells X1 Y1 Z1), (3, lcells X2 Y2 Z2), (4, zl.toArray), (8, (fv b).cells), (9, #[.int .u64 0, .int .u64 0, .int .u64 0, .int .u64 0]), (10, #[.int .u64 0, .int .u64 0, .int .u64 0, .int .u64 0]), (11, #[.int .u64 0, .int .u64 0, .int .u64 0, .int .u64 0])] qhs qhl (r0_31 X1 Y1 Z1 X2 Y2 Z2 b tail _ qle)
theorem r0_33 (tail : ∀ G9, G.le G9 → ∀ s l, Q' .normal (S (SL.sets s [(2, qz), (3, qz), (4, qz), (5, qfn 51), (6, qfn 55), (7, qfn 48), (8, qz), (9, qz), (10, qz), (11, qz)]) (AL.sets l [(2, lcells X1 Y1 Z1), (3, lcells X2 Y2 Z2), (4, zl.toArray), (8, (fv b).cells), (9, (fv (X1 * X2)).cells), (10, (fv (Y1 * Y2)).cells), (11, (fv (Z1 * Z2)).cells)]) G9)) : ∀ G9, G.le G9 → ∀ s l, vplan Try.prog E35 G L35_0 (Q' .normal) p35_0_33 (S (SL.sets s [(2, qz), (3, qz), (4, qz), (5, qfn 51), (6, qfn 55), (7, qfn 48), (8, qz), (21, qfn 51), (23, fv X1), (25, fv X2), (27, qfn 51), (29, fv Y1), (31, fv Y2), (33, qfn 51), (35, fv Z1), (37, fv Z2), (26, fv (X1 * X2)), (32, fv (Y1 * Y2)), (10, qz)]) (AL.sets l [(2, lcells X1 Y1 Z1), (3, lcells X2 Y2 Z2), (4, zl.toArray), (8, (fv b).cells), (10, #[.int .u64 0, .int .u64 0, .int .u64 0, .int .u64 0])]) G9) := by
  intro G9 h9 s l
  dsimp only [SL.sets, AL.sets]
  refine p_alt ?_ ?_
  · refine s_cvT ?_
    intro G' hle
    refine o_nil ?_
    refine s_stand ?_
    exact k_trim [(2, qz), (3, qz), (4, qz), (5, qfn 51), (6, qfn 55), (7, qfn 48), (8, qz), (21, qfn 51), (23, fv X1), (25, fv X2), (27, qfn 51), (29, fv Y1), (31, fv Y2), (33, qfn 51), (35, fv Z1), (37, fv Z2), (26, fv (X1 * X2)), (32, fv (Y1 * Y2)), (38, fv (Z1 * Z2)), (10, qz)] [(2, lcells X1 Y1 Z1), (3, lcells X2 Y2 Z2), (4, zl.toArray), (8, (fv b).cells), (10, #[.int .u64 0, .int .u64 0, .int .u64 0, .int .u64 0])] qhs qhl (r0_26 X1 Y1 Z1 X2 Y2 Z2 b tail _ qle)
  refine p_alt ?_ ?_
  · refine s_lalloc ?_
    refine o_nil ?_
    refine s_standL ?_
    exact k_trim [(2, qz), (3, qz), (4, qz), (5, qfn 51), (6, qfn 55), (7, qfn 48), (8, qz), (21, qfn 51), (23, fv X1), (25, fv X2), (27, qfn 51), (29, fv Y1), (31, fv Y2), (33, qfn 51), (35, fv Z1), (37, fv Z2), (26, fv (X1 * X2)), (32, fv (Y1 * Y2)), (9, qz), (10, qz)] [(2, lcells X1 Y1 Z1), (3, lcells X2 Y2 Z2), (4, zl.toArray), (8, (fv b).cells), (9, #[.int .u64 0, .int .u64 0, .int .u64 0, .int .u64 0]), (10, #[.int .u64 0, .int .u64 0, .int .u64 0, .int .u64 0])] qhs qhl (r0_30 X1 Y1 Z1 X2 Y2 Z2 b tail _ qle)
  refine p_alt ?_ p_no
  · refine s_lalloc ?_
    refine o_nil ?_
    refine s_standL ?_
    exact k_trim [(2, qz), (3, qz), (4, qz), (5, qfn 51), (6, qfn 55), (7, qfn 48), (8, qz), (21, qfn 51), (23, fv X1), (25, fv X2), (27, qfn 51), (29, fv Y1), (31, fv Y2), (33, qfn 51), (35, fv Z1), (37, fv Z2), (26, fv (X1 * X2)), (32, fv (Y1 * Y2)), (10, qz), (11, qz)] [(2, lcells X1 Y1 Z1), (3, lcells X2 Y2 Z2), (4, zl.toArray), (8, (fv b).cells), (10, #[.int .u64 0, .int .u64 0, .int .u64 0, .int .u64 0]), (11, #[.int .u64 0, .int .u64 0, .int .u64 0, .int .u64 0])] qhs qhl (r0_34 X1 Y1 Z1 X2 Y2 Z2 b tail _ qle)
theorem r0_35 (tail : ∀ G9, G.le G9 → ∀ s l, Q' .normal (S (SL.sets s [(2, qz), (3, qz), (4, qz), (5, qfn 51), (6, qfn 55), (7, qfn 48), (8, qz), (9, qz), (10, qz), (11, qz)]) (AL.sets l [(2, lcells X1 Y1 Z1), (3, lcells X2 Y2 Z2), (4, zl.toArray), (8, (fv b).cells), (9, (fv (X1 * X2)).cells), (10, (fv (Y1 * Y2)).cells), (11, (fv (Z1 * Z2)).cells)]) G9)) : ∀ G9, G.le G9 → ∀ s l, vplan Try.prog E35 G L35_0 (Q' .normal) p35_0_35 (S (SL.sets s [(2, qz), (3, qz), (4, qz), (5, qfn 51), (6, qfn 55), (7, qfn 48), (8, qz), (21, qfn 51), (23, fv X1), (25, fv X2), (27, qfn 51), (29, fv Y1), (31, fv Y2), (33, qfn 51), (35, fv Z1), (37, fv Z2), (26, fv (X1 * X2)), (32, fv (Y1 * Y2)), (11, qz)]) (AL.sets l [(2, lcells X1 Y1 Z1), (3, lcells X2 Y2 Z2), (4, zl.toArray), (8, (fv b).cells), (11, #[.int .u64 0, .int .u64 0, .int .u64 0, .int .u64 0])]) G9) := by
  intro G9 h9 s l
  dsimp only [SL.sets, AL.sets]
  refine p_alt ?_ ?_
  · refine s_cvT ?_
    intro G' hle
    refine o_nil ?_
    refine s_stand ?_
    exact k_trim [(2, qz), (3, qz), (4, qz), (5, qfn 51), (6, qfn 55), (7, qfn 48), (8, qz), (21, qfn 51), (23, fv X1), (25, fv X2), (27, qfn 51), (29, fv Y1), (31, fv Y2), (33, qfn 51), (35, fv Z1), (37, fv Z2), (26, fv (X1 * X2)), (32, fv (Y1 * Y2)), (38, fv (Z1 * Z2)), (11, qz)] [(2, lcells X1 Y1 Z1), (3, lcells X2 Y2 Z2), (4, zl.toArray), (8, (fv b).cells), (11, #[.int .u64 0, .int .u64 0, .int .u64 0, .int .u64 0])] qhs qhl (r0_28 X1 Y1 Z1 X2 Y2 Z2 b tail _ qle)
  refine p_alt ?_ ?_
  · refine s_lalloc ?_
    refine o_nil ?_
    refine s_standL ?_
    exact k_trim [(2, qz), (3, qz), (4, qz), (5, qfn 51), (6, qfn 55), (7, qfn 48), (8, qz), (21, qfn 51), (23, fv X1), (25, fv X2), (27, qfn 51), (29, fv Y1), (31, fv Y2), (33, qfn 51), (35, fv Z1), (37, fv Z2), (26, fv (X1 * X2)), (32, fv (Y1 * Y2)), (9, qz), (11, qz)] [(2, lcells X1 Y1 Z1), (3, lcells X2 Y2 Z2), (4, zl.toArray), (8, (fv b).cells), (9, #[.int .u64 0, .int .u64 0, .int .u64 0, .int .u64 0]), (11, #[.int .u64 0, .int .u64 0, .int .u64 0, .int .u64 0])] qhs qhl (r0_32 X1 Y1 Z1 X2 Y2 Z2 b tail _ qle)
  refine p_alt ?_ p_no
  · refine s_lalloc ?_
    refine o_nil ?_
    refine s_standL ?_
    exact k_trim [(2, qz), (3, qz), (4, qz), (5, qfn 51), (6, qfn 55), (7, qfn 48), (8, qz), (21, qfn 51), (23, fv X1), (25, fv X2), (27, qfn 51), (29, fv Y1), (31, fv Y2), (33, qfn 51), (35, fv Z1), (37, fv Z2), (26, fv (X1 * X2)), (32, fv (Y1 * Y2)), (10, qz), (11, qz)] [(2, lcells X1 Y1 Z1), (3, lcells X2 Y2 Z2), (4, zl.toArray), (8, (fv b).cells), (10, #[.int .u64 0, .int .u64 0, .int .u64 0, .int .u64 0]), (11, #[.int .u64 0, .int .u64 0, .int .u64 0, .int .u64 0])] qhs qhl (r0_34 X1 Y1 Z1 X2 Y2 Z2 b tail _ qle)
theorem r0_17 (tail : ∀ G9, G.le G9 → ∀ s l, Q' .normal (S (SL.sets s [(2, qz), (3, qz), (4, qz), (5, qfn 51), (6, qfn 55), (7, qfn 48), (8, qz), (9, qz), (10, qz), (11, qz)]) (AL.sets l [(2, lcells X1 Y1 Z1), (3, lcells X2 Y2 Z2), (4, zl.toArray), (8, (fv b).cells), (9, (fv (X1 * X2)).cells), (10, (fv (Y1 * Y2)).cells), (11, (fv (Z1 * Z2)).cells)]) G9)) : ∀ G9, G.le G9 → ∀ s l, vplan Try.prog E35 G L35_0 (Q' .normal) p35_0_17 (S (SL.sets s [(2, qz), (3, qz), (4, qz), (5, qfn 51), (6, qfn 55), (7, qfn 48), (8, qz), (21, qfn 51), (23, fv X1), (25, fv X2), (27, qfn 51), (29, fv Y1), (31, fv Y2), (33, qfn 51), (35, fv Z1), (37, fv Z2), (26, fv (X1 * X2)), (32, fv (Y1 * Y2))]) (AL.sets l [(2, lcells X1 Y1 Z1), (3, lcells X2 Y2 Z2), (4, zl.toArray), (8, (fv b).cells)]) G9) := by
  intro G9 h9 s l
  dsimp only [SL.sets, AL.sets]
  refine p_alt ?_ ?_
  · refine s_cvT ?_
    intro G' hle
    refine o_nil ?_
    refine s_stand ?_
    exact k_trim [(2, qz), (3, qz), (4, qz), (5, qfn 51), (6, qfn 55), (7, qfn 48), (8, qz), (21, qfn 51), (23, fv X1), (25, fv X2), (27, qfn 51), (29, fv Y1), (31, fv Y2), (33, qfn 51), (35, fv Z1), (37, fv Z2), (26, fv (X1 * X2)), (32, fv (Y1 * Y2)), (38, fv (Z1 * Z2))] [(2, lcells X1 Y1 Z1), (3, lcells X2 Y2 Z2), (4, zl.toArray), (8, (fv b).cells)] qhs qhl (r0_18 X1 Y1 Z1 X2 Y2 Z2 b tail _ qle)
  refine p_alt ?_ ?_
  · refine s_lalloc ?_
    refine o_nil ?_
    refine s_standL ?_
    exact k_trim [(2, qz), (3, qz), (4, qz), (5, qfn 51), (6, qfn 55), (7, qfn 48), (8, qz), (21, qfn 51), (23, fv X1), (25, fv X2), (27, qfn 51), (29, fv Y1), (31, fv Y2), (33, qfn 51), (35, fv Z1), (37, fv Z2), (26, fv (X1 * X2)), (32, fv (Y1 * Y2)), (9, qz)] [(2, lcells X1 Y1 Z1), (3, lcells X2 Y2 Z2), (4, zl.toArray), (8, (fv b).cells), (9, #[.int .u64 0, .int .u64 0, .int .u64 0, .int .u64 0])] qhs qhl (r0_29 X1 Y1 Z1 X2 Y2 Z2 b tail _ qle)
  refine p_alt ?_ ?_
  · refine s_lalloc ?_
    refine o_nil ?_
    refine s_standL ?_
    exact k_trim [(2, qz), (3, qz), (4, qz), (5, qfn 51), (6, qfn 55), (7, qfn 48), (8, qz), (21, qfn 51), (23, fv X1), (25, fv X2), (27, qfn 51), (29, fv Y1), (31, fv Y2), (33, qfn 51), (35, fv Z1), (37, fv Z2), (26, fv (X1 * X2)), (32, fv (Y1 * Y2)), (10, qz)] [(2, lcells X1 Y1 Z1), (3, lcells X2 Y2 Z2), (4, zl.toArray), (8, (fv b).cells), (10, #[.int .u64 0, .int .u64 0, .int .u64 0, .int .u64 0])] qhs qhl (r0_33 X1 Y1 Z1 X2 Y2 Z2 b tail _ qle)
  refine p_alt ?_ p_no
  · refine s_lalloc ?_
    refine o_nil ?_
    refine s_standL ?_
    exact k_trim [(2, qz), (3, qz), (4, qz), (5, qfn 51), (6, qfn 55), (7, qfn 48), (8, qz), (21, qfn 51), (23, fv X1), (25, fv X2), (27, qfn 51), (29, fv Y1), (31, fv Y2), (33, qfn 51), (35, fv Z1), (37, fv Z2), (26, fv (X1 * X2)), (32, fv (Y1 * Y2)), (11, qz)] [(2, lcells X1 Y1 Z1), (3, lcells X2 Y2 Z2), (4, zl.toArray), (8, (fv b).cells), (11, #[.int .u64 0, .int .u64 0, .int .u64 0, .int .u64 0])] qhs qhl (r0_35 X1 Y1 Z1 X2 Y2 Z2 b tail _ qle)
theorem r0_38 (tail : ∀ G9, G.le G9 → ∀ s l, Q' .normal (S (SL.sets s [(2, qz), (3, qz), (4, qz), (5, qfn 51), (6, qfn 55), (7, qfn 48), (8, qz), (9, qz), (10, qz), (11, qz)]) (AL.sets l [(2, lcells X1 Y1 Z1), (3, lcells X2 Y2 Z2), (4, zl.toArray), (8, (fv b).cells), (9, (fv (X1 * X2)).cells), (10, (fv (Y1 * Y2)).cells), (11, (fv (Z1 * Z2)).cells)]) G9)) : ∀ G9, G.le G9 → ∀ s l, vplan Try.prog E35 G L35_0 (Q' .normal) p35_0_38 (S (SL.sets s [(2, qz), (3, qz), (4, qz), (5, qfn 51), (6, qfn 55), (7, qfn 48), (8, qz), (21, qfn 51), (23, fv X1), (25, fv X2), (27, qfn 51), (29, fv Y1), (31, fv Y2), (33, qfn 51), (35, fv Z1), (37, fv Z2), (26, fv (X1 * X2)), (9, qz), (10, qz), (11, qz)]) (AL.sets l [(2, lcells X1 Y1 Z1), (3, lcells X2 Y2 Z2), (4, zl.toArray), (8, (fv b).cells), (9, #[.int .u64 0, .int .u64 0, .int .u64 0, .int .u64 0]), (10, #[.int .u64 0, .int .u64 0, .int .u64 0, .int .u64 0]), (11, #[.int .u64 0, .int .u64 0, .int .u64 0, .int .u64 0])]) G9) := by
  intro G9 h9 s l
  dsimp only [SL.sets, AL.sets]
  refine p_alt ?_ p_no
  · refine s_cvT ?_
    intro G' hle
    refine o_nil ?_
    refine s_stand ?_
    exact k_trim [(2, qz), (3, qz), (4, qz), (5, qfn 51), (6, qfn 55), (7, qfn 48), (8, qz), (21, qfn 51), (23, fv X1), (25, fv X2), (27, qfn 51), (29, fv Y1), (31, fv Y2), (33, qfn 51), (35, fv Z1), (37, fv Z2), (26, fv (X1 * X2)), (32, fv (Y1 * Y2)), (9, qz), (10, qz), (11, qz)] [(2, lcells X1 Y1 Z1), (3, lcells X2 Y2 Z2), (4, zl.toArray), (8, (fv b).cells), (9, #[.int .u64 0, .int .u64 0, .int .u64 0, .int .u64 0]), (10, #[.int .u64 0, .int .u64 0, .int .u64 0, .int .u64 0]), (11, #[.int .u64 0, .int .u64 0, .int .u64 0, .int .u64 0])] qhs qhl (r0_31 X1 Y1 Z1 X2 Y2 Z2 b tail _ qle)
theorem r0_37 (tail : ∀ G9, G.le G9 → ∀ s l, Q' .normal (S (SL.sets s [(2, qz), (3, qz), (4, qz), (5, qfn 51), (6, qfn 55), (7, qfn 48), (8, qz), (9, qz), (10, qz), (11, qz)]) (AL.sets l [(2, lcells X1 Y1 Z1), (3, lcells X2 Y2 Z2), (4, zl.toArray), (8, (fv b).cells), (9, (fv (X1 * X2)).cells), (10, (fv (Y1 * Y2)).cells), (11, (fv (Z1 * Z2)).cells)]) G9)) : ∀ G9, G.le G9 → ∀ s l, vplan Try.prog E35 G L35_0 (Q' .normal) p35_0_37 (S (SL.sets s [(2, qz), (3, qz), (4, qz), (5, qfn 51), (6, qfn 55), (7, qfn 48), (8, qz), (21, qfn 51), (23, fv X1), (25, fv X2), (27, qfn 51), (29, fv Y1), (31, fv Y2), (33, qfn 51), (35, fv Z1), (37, fv Z2), (26, fv (X1 * X2)), (9, qz), (10, qz)]) (AL.sets l [(2, lcells X1 Y1 Z1), (3, lcells X2 Y2 Z2), (4, zl.toArray), (8, (fv b).cells), (9, #[.int .u64 0, .int .u64 0, .int .u64 0, .int .u64 0]), (10, #[.int .u64 0, .int .u64 0, .int .u64 0, .int .u64 0])]) G9) := by
  intro G9 h9 s l
  dsimp only [SL.sets, AL.sets]
  refine p_alt ?_ ?_
  · refine s_cvT ?_
    intro G' hle
    refine o_nil ?_
    refine s_stand ?_
    exact k_trim [(2, qz), (3, qz), (4, qz), (5, qfn 51), (6, qfn 55), (7, qfn 48), (8, qz), (21, qfn 51), (23, fv X1), (25, fv X2), (27, qfn 51), (29, fv Y1), (31, fv Y2), (33, qfn 51), (35, fv Z1), (37, fv Z2), (26, fv (X1 * X2)), (32, fv (Y1 * Y2)), (9, qz), (10, qz)] [(2, lcells X1 Y1 Z1), (3, lcells X2 Y2 Z2), (4, zl.toArray), (8, (fv b).cells), (9, #[.int .u64 0, .int .u64 0, .int .u64 0, .int .u64 0]), (10, #[.int .u64 0, .int .u64 0, .int .u64 0, .int .u64 0])] qhs qhl (r0_30 X1 Y1 Z1 X2 Y2 Z2 b tail _ qle)
  refine p_alt ?_ p_no
  · refine s_lalloc ?_
    refine o_nil ?_
    refine s_standL ?_
    exact k_trim [(2, qz), (3, qz), (4, qz), (5, qfn 51), (6, qfn 55), (7, qfn 48), (8, qz), (21, qfn 51), (23, fv X1), (25, fv X2), (27, qfn 51), (29, fv Y1), (31, fv Y2), (33, qfn 51), (35, fv Z1), (37, fv Z2), (26, fv (X1 * X2)), (9, qz), (10, qz), (11, qz)] [(2, lcells X1 Y1 Z1), (3, lcells X2 Y2 Z2), (4, zl.toArray), (8, (fv b).cells), (9, #[.int .u64 0, .int .u64 0, .int .u64 0, .int .u64 0]), (10, #[.int .u64 0, .int .u64 0, .int .u64 0, .int .u64 0]), (11, #[.int .u64 0, .int .u64 0, .int .u64 0, .int .u64 0])] qhs qhl (r0_38 X1 Y1 Z1 X2 Y2 Z2 b tail _ qle)
theorem r0_39 (tail : ∀ G9, G.le G9 → ∀ s l, Q' .normal (S (SL.sets s [(2, qz), (3, qz), (4, qz), (5, qfn 51), (6, qfn 55), (7, qfn 48), (8, qz), (9, qz), (10, qz), (11, qz)]) (AL.sets l [(2, lcells X1 Y1 Z1), (3, lcells X2 Y2 Z2), (4, zl.toArray), (8, (fv b).cells), (9, (fv (X1 * X2)).cells), (10, (fv (Y1 * Y2)).cells), (11, (fv (Z1 * Z2)).cells)]) G9)) : ∀ G9, G.le G9 → ∀ s l, vplan Try.prog E35 G L35_0 (Q' .normal) p35_0_39 (S (SL.sets s [(2, qz), (3, qz), (4, qz), (5, qfn 51), (6, qfn 55), (7, qfn 48), (8, qz), (21, qfn 51), (23, fv X1), (25, fv X2), (27, qfn 51), (29, fv Y1), (31, fv Y2), (33, qfn 51), (35, fv Z1), (37, fv Z2), (26, fv (X1 * X2)), (9, qz), (11, qz)]) (AL.sets l [(2, lcells X1 Y1 Z1), (3, lcells X2 Y2 Z2), (4, zl.toArray), (8, (fv b).cells), (9, #[.int .u64 0, .int .u64 0, .int .u64 0, .int .u64 0]), (11, #[.int .u64 0, .int .u64 0, .int .u64 0, .int .u64 0])]) G9) := by
  intro G9 h9 s l
  dsimp only [SL.sets, AL.sets]
  refine p_alt ?_ ?_
  · refine s_cvT ?_
    intro G' hle
    refine o_nil ?_
    refine s_stand ?_
    exact k_trim [(2, qz), (3, qz), (4, qz), (5, qfn 51), (6, qfn 55), (7, qfn 48), (8, qz), (21, qfn 51), (23, fv X1), (25, fv X2), (27, qfn 51), (29, fv Y1), (31, fv Y2), (33, qfn 51), (35, fv Z1), (37, fv Z2), (26, fv (X1 * X2)), (32, fv (Y1 * Y2)), (9, qz), (11, qz)] [(2, lcells X1 Y1 Z1), (3, lcells X2 Y2 Z2), (4, zl.toArray), (8, (fv b).cells), (9, #[.int .u64 0, .int .u64 0, .int .u64 0, .int .u64 0]), (11, #[.int .u64 0, .int .u64 0, .int .u64 0, .int .u64 0])] qhs qhl (r0_32 X1 Y1 Z1 X2 Y2 Z2 b tail _ qle)
  refine p_alt ?_ p_no
  · refine s_lalloc ?_
    refine o_nil ?_
    refine s_standL ?_
    exact k_trim [(2, qz), (3, qz), (4, qz), (5, qfn 51), (6, qfn 55), (7, qfn 48), (8, qz), (21, qfn 51), (23, fv X1), (25, fv X2), (27, qfn 51), (29, fv Y1), (31, fv Y2), (33, qfn 51), (35, fv Z1), (37, fv Z2), (26, fv (X1 * X2)), (9, qz), (10, qz), (11, qz)] [(2, lcells X1 Y1 Z1), (3, lcells X2 Y2 Z2), (4, zl.toArray), (8, (fv b).cells), (9, #[.int .u64 0, .int .u64 0, .int .u64 0, .int .u64 0]), (10, #[.int .u64 0, .int .u64 0, .int .u64 0, .int .u64 0]), (11, #[.int .u64 0, .int .u64 0, .int .u64 0, .int .u64 0])] qhs qhl (r0_38 X1 Y1 Z1 X2 Y2 Z2 b tail _ qle)
theorem r0_36 (tail : ∀ G9, G.le G9 → ∀ s l, Q' .normal (S (SL.sets s [(2, qz), (3, qz), (4, qz), (5, qfn 51), (6, qfn 55), (7, qfn 48), (8, qz), (9, qz), (10, qz), (11, qz)]) (AL.sets l [(2, lcells X1 Y1 Z1), (3, lcells X2 Y2 Z2), (4, zl.toArray), (8, (fv b).cells), (9, (fv (X1 * X2)).cells), (10, (fv (Y1 * Y2)).cells), (11, (fv (Z1 * Z2)).cells)]) G9)) : ∀ G9, G.le G9 → ∀ s l, vplan Try.prog E35 G L35_0 (Q' .normal) p35_0_36 (S (SL.sets s [(2, qz), (3, qz), (4, qz), (5, qfn 51), (6, qfn 55), (7, qfn 48), (8, qz), (21, qfn 51), (23, fv X1), (25, fv X2), (27, qfn 51), (29, fv Y1), (31, fv Y2), (33, qfn 51), (35, fv Z1), (37, fv Z2), (26, fv (X1 * X2)), (9, qz)]) (AL.sets l [(2, lcells X1 Y1 Z1), (3, lcells X2 Y2 Z2), (4, zl.toArray), (8, (fv b).cells), (9, #[.int .u64 0, .int .u64 0, .int .u64 0, .int .u64 0])]) G9) := by
  intro G9 h9 s l
  dsimp only [SL.sets, AL.sets]
  refine p_alt ?_ ?_
  · refine s_cvT ?_
    intro G' hle
    refine o_nil ?_
    refine s_stand ?_
    exact k_trim [(2, qz), (3, qz), (4, qz), (5, qfn 51), (6, qfn 55), (7, qfn 48), (8, qz), (21, qfn 51), (23, fv X1), (25, fv X2), (27, qfn 51), (29, fv Y1), (31, fv Y2), (33, qfn 51), (35, fv Z1), (37, fv Z2), (26, fv (X1 * X2)), (32, fv (Y1 * Y2)), (9, qz)] [(2, lcells X1 Y1 Z1), (3, lcells X2 Y2 Z2), (4, zl.toArray), (8, (fv b).cells), (9, #[.int .u64 0, .int .u64 0, .int .u64 0, .int .u64 0])] qhs qhl (r0_29 X1 Y1 Z1 X2 Y2 Z2 b tail _ qle)
  refine p_alt ?_ ?_
  · refine s_lalloc ?_
    refine o_nil ?_
    refine s_standL ?_
    exact k_trim [(2, qz), (3, qz), (4, qz), (5, qfn 51), (6, qfn 55), (7, qfn 48), (8, qz), (21, qfn 51), (23, fv X1), (25, fv X2), (27, qfn 51), (29, fv Y1), (31, fv Y2), (33, qfn 51), (35, fv Z1), (37, fv Z2), (26, fv (X1 * X2)), (9, qz), (10, qz)] [(2, lcells X1 Y1 Z1), (3, lcells X2 Y2 Z2), (4, zl.toArray), (8, (fv b).cells), (9, #[.int .u64 0, .int .u64 0, .int .u64 0, .int .u64 0]), (10, #[.int .u64 0, .int .u64 0, .int .u64 0, .int .u64 0])] qhs qhl (r0_37 X1 Y1 Z1 X2 Y2 Z2 b tail _ qle)
  refine p_alt ?_ p_no
  · refine s_lalloc ?_
    refine o_nil ?_
    refine s_standL ?_
    exact k_trim [(2, qz), (3, qz), (4, qz), (5, qfn 51), (6, qfn 55), (7, qfn 48), (8, qz), (21, qfn 51), (23, fv X1), (25, fv X2), (27, qfn 51), (29, fv Y1), (31, fv Y2), (33, qfn 51), (35, fv Z1), (37, fv Z2), (26, fv (X1 * X2)), (9, qz), (11, qz)] [(2, lcells X1 Y1 Z1), (3, lcells X2 Y2 Z2), (4, zl.toArray), (8, (fv b).cells), (9, #[.int .u64 0, .int .u64 0, .int .u64 0, .int .u64 0]), (11, #[.int .u64 0, .int .u64 0, .int .u64 0, .int .u64 0])] qhs qhl (r0_39 X1 Y1 Z1 X2 Y2 Z2 b tail _ qle)
theorem r0_41 (tail : ∀ G9, G.le G9 → ∀ s l, Q' .normal (S (SL.sets s [(2, qz), (3, qz), (4, qz), (5, qfn 51), (6, qfn 55), (7, qfn 48), (8, qz), (9, qz), (10, qz), (11, qz)]) (AL.sets l [(2, lcells X1 Y1 Z1), (3, lcells X2 Y2 Z2), (4, zl.toArray), (8, (fv b).cells), (9, (fv (X1 * X2)).cells), (10, (fv (Y1 * Y2)).cells), (11, (fv (Z1 * Z2)).cells)]) G9)) : ∀ G9, G.le G9 → ∀ s l, vplan Try.prog E35 G L35_0 (Q' .normal) p35_0_41 (S (SL.sets s [(2, qz), (3, qz), (4, qz), (5, qfn 51), (6, qfn 55), (7, qfn 48), (8, qz), (21, qfn 51), (23, fv X1), (25, fv X2), (27, qfn 51), (29, fv Y1), (31, fv Y2), (33, qfn 51), (35, fv Z1), (37, fv Z2), (26, fv (X1 * X2)), (10, qz), (11, qz)]) (AL.sets l [(2, lcells X1 Y1 Z1), (3, lcells X2 Y2 Z2), (4, zl.toArray), (8, (fv b).cells), (10, #[.int .u64 0, .int .u64 0, .int .u64 0, .int .u64 0]), (11, #[.int .u64 0, .int .u64 0, .int .u64 0, .int .u64 0])]) G9) := by
  intro G9 h9 s l
  dsimp only [SL.sets, AL.sets]
  refine p_alt ?_ ?_
  · refine s_cvT ?_
    intro G' hle
    refine o_nil ?_
    refine s_stand ?_
    exact k_trim [(2, qz), (3, qz), (4, qz), (5, qfn 51), (6, qfn 55), (7, qfn 48), (8, qz), (21, qfn 51), (23, fv X1), (25, fv X2), (27, qfn 51), (29, fv Y1), (31, fv Y2), (33, qfn 51), (35, fv Z1), (37, fv Z2), (26, fv (X1 * X2)), (32, fv (Y1 * Y2)), (10, qz), (11, qz)] [(2, lcells X1 Y1 Z1), (3, lcells X2 Y2 Z2), (4, zl.toArray), (8, (fv b).cells), (10, #[.int .u64 0, .int .u64 0, .int .u64 0, .int .u64 0]), (11, #[.int .u64 0, .int .u64 0, .int .u64 0, .int .u64 0])] qhs qhl (r0_34 X1 Y1 Z1 X2 Y2 Z2 b tail _ qle)
  refine p_alt ?_ p_no
  · refine s_lalloc ?_
    refine o_nil ?_
    refine s_standL ?_
    exact k_trim [(2, qz), (3, qz), (4, qz), (5, qfn 51), (6, qfn 55), (7, qfn 48), (8, qz), (21, qfn 51), (23, fv X1), (25, fv X2), (27, qfn 51), (29, fv Y1), (31, fv Y2), (33, qfn 51), (35, fv Z1), (37, fv Z2), (26, fv (X1 * X2)), (9, qz), (10, qz), (11, qz)] [(2, lcells X1 Y1 Z1), (3, lcells X2 Y2 Z2), (4, zl.toArray), (8, (fv b).cells), (9, #[.int .u64 0, .int .u64 0, .int .u64 0, .int .u64 0]), (10, #[.int .u64 0, .int .u64 0, .int .u64 0, .int .u64 0]), (11, #[.int .u64 0, .int .u64 0, .int .u64 0, .int .u64 0])] qhs qhl (r0_38 X1 Y1 Z1 X2 Y2 Z2 b tail _ qle)
theorem r0_40 (tail : ∀ G9, G.le G9 → ∀ s l, Q' .normal (S (SL.sets s [(2, qz), (3, qz), (4, qz), (5, qfn 51), (6, qfn 55), (7, qfn 48), (8, qz), (9, qz), (10, qz), (11, qz)]) (AL.sets l [(2, lcells X1 Y1 Z1), (3, lcells X2 Y2 Z2), (4, zl.toArray), (8, (fv b).cells), (9, (fv (X1 * X2)).cells), (10, (fv (Y1 * Y2)).cells), (11, (fv (Z1 * Z2)).cells)]) G9)) : ∀ G9, G.le G9 → ∀ s l, vplan Try.prog E35 G L35_0 (Q' .normal) p35_0_40 (S (SL.sets s [(2, qz), (3, qz), (4, qz), (5, qfn 51), (6, qfn 55), (7, qfn 48), (8, qz), (21, qfn 51), (23, fv X1), (25, fv X2), (27, qfn 51), (29, fv Y1), (31, fv Y2), (33, qfn 51), (35, fv Z1), (37, fv Z2), (26, fv (X1 * X2)), (10, qz)]) (AL.sets l [(2, lcells X1 Y1 Z1), (3, lcells X2 Y2 Z2), (4, zl.toArray), (8, (fv b).cells), (10, #[.int .u64 0, .int .u64 0, .int .u64 0, .int .u64 0])]) G9) := by
  intro G9 h9 s l
  dsimp only [SL.sets, AL.sets]
  refine p_alt ?_ ?_
  · refine s_cvT ?_
    intro G' hle
    refine o_nil ?_
    refine s_stand ?_
    exact k_trim [(2, qz), (3, qz), (4, qz), (5, qfn 51), (6, qfn 55), (7, qfn 48), (8, qz), (21, qfn 51), (23, fv X1), (25, fv X2), (27, qfn 51), (29, fv Y1), (31, fv Y2), (33, qfn 51), (35, fv Z1), (37, fv Z2), (26, fv (X1 * X2)), (32, fv (Y1 * Y2)), (10, qz)] [(2, lcells X1 Y1 Z1), (3, lcells X2 Y2 Z2), (4, zl.toArray), (8, (fv b).cells), (10, #[.int .u64 0, .int .u64 0, .int .u64 0, .int .u64 0])] qhs qhl (r0_33 X1 Y1 Z1 X2 Y2 Z2 b tail _ qle)
  refine p_alt ?_ ?_
  · refine s_lalloc ?_
    refine o_nil ?_
    refine s_standL ?_
    exact k_trim [(2, qz), (3, qz), (4, qz), (5, qfn 51), (6, qfn 55), (7, qfn 48), (8, qz), (21, qfn 51), (23, fv X1), (25, fv X2), (27, qfn 51), (29, fv Y1), (31, fv Y2), (33, qfn 51), (35, fv Z1), (37, fv Z2), (26, fv (X1 * X2)), (9, qz), (10, qz)] [(2, lcells X1 Y1 Z1), (3, lcells X2 Y2 Z2), (4, zl.toArray), (8, (fv b).cells), (9, #[.int .u64 0, .int .u64 0, .int .u64 0, .int .u64 0]), (10, #[.int .u64 0, .int .u64 0, .int .u64 0, .int .u64 0])] qhs qhl (r0_37 X1 Y1 Z1 X2 Y2 Z2 b tail _ qle)
  refine p_alt ?_ p_no
  · refine s_lalloc ?_
    refine o_nil ?_
    refine s_standL ?_
    exact k_trim [(2, qz), (3, qz), (4, qz), (5, qfn 51), (6, qfn 55), (7, qfn 48), (8, qz), (21, qfn 51), (23, fv X1), (25, fv X2), (27, qfn 51), (29, fv Y1), (31, fv Y2), (33, qfn 51), (35, fv Z1), (37, fv Z2), (26, fv (X1 * X2)), (10, qz), (11, qz)] [(2, lcells X1 Y1 Z1), (3, lcells X2 Y2 Z2), (4, zl.toArray), (8, (fv b).cells), (10, #[.int .u64 0, .int .u64 0, .int .u64 0, .int .u64 0]), (11, #[.int .u64 0, .int .u64 0, .int .u64 0, .int .u64 0])] qhs qhl (r0_41 X1 Y1 Z1 X2 Y2 Z2 b tail _ qle)
theorem r0_42 (tail : ∀ G9, G.le G9 → ∀ s l, Q' .normal (S (SL.sets s [(2, qz), (3, qz), (4, qz), (5, qfn 51), (6, qfn 55), (7, qfn 48), (8, qz), (9, qz), (10, qz), (11, qz)]) (AL.sets l [(2, lcells X1 Y1 Z1), (3, lcells X2 Y2 Z2), (4, zl.toArray), (8, (fv b).cells), (9, (fv (X1 * X2)).cells), (10, (fv (Y1 * Y2)).cells), (11, (fv (Z1 * Z2)).cells)]) G9)) : ∀ G9, G.le G9 → ∀ s l, vplan Try.prog E35 G L35_0 (Q' .normal) p35_0_42 (S (SL.sets s [(2, qz), (3, qz), (4, qz), (5, qfn 51), (6, qfn 55), (7, qfn 48), (8, qz), (21, qfn 51), (23, fv X1), (25, fv X2), (27, qfn 51), (29, fv Y1), (31, fv Y2), (33, qfn 51), (35, fv Z1), (37, fv Z2), (26, fv (X1 * X2)), (11, qz)]) (AL.sets l [(2, lcells X1 Y1 Z1), (3, lcells X2 Y2 Z2), (4, zl.toArray), (8, (fv b).cells), (11, #[.int .u64 0, .int .u64 0, .int .u64 0, .int .u64 0])]) G9) := by
  intro G9 h9 s l
  dsimp only [SL.sets, AL.sets]
  refine p_alt ?_ ?_
  · refine s_cvT ?_
    intro G' hle
    refine o_nil ?_
    refine s_stand ?_
    exact k_trim [(2, qz), (3, qz), (4, qz), (5, qfn 51), (6, qfn 55), (7, qfn 48), (8, qz), (21, qfn 51), (23, fv X1), (25, fv X2), (27, qfn 51), (29, fv Y1), (31, fv Y2), (33, qfn 51), (35, fv Z1), (37, fv Z2), (26, fv (X1 * X2)), (32, fv (Y1 * Y2)), (11, qz)] [(2, lcells X1 Y1 Z1), (3, lcells X2 Y2 Z2), (4, zl.toArray), (8, (fv b).cells), (11, #[.int .u64 0, .int .u64 0, .int .u64 0, .int .u64 0])] qhs qhl (r0_35 X1 Y1 Z1 X2 Y2 Z2 b tail _ qle)
  refine p_alt ?_ ?_
  · refine s_lalloc ?_
    refine o_nil ?_
    refine s_standL ?_
    exact k_trim [(2, qz), (3, qz), (4, qz), (5, qfn 51), (6, qfn 55), (7, qfn 48), (8, qz), (21, qfn 51), (23, fv X1), (25, fv X2), (27, qfn 51), (29, fv Y1), (31, fv Y2), (33, qfn 51), (35, fv Z1), (37, fv Z2), (26, fv (X1 * X2)), (9, qz), (11, qz)] [(2, lcells X1 Y1 Z1), (3, lcells X2 Y2 Z2), (4, zl.toArray), (8, (fv b).cells), (9, #[.int .u64 0, .int .u64 0, .int .u64 0, .int .u64 0]), (11, #[.int .u64 0, .int .u64 0, .int .u64 0, .int .u64 0])] qhs qhl (r0_39 X1 Y1 Z1 X2 Y2 Z2 b tail _ qle)
  refine p_alt ?_ p_no
  · refine s_lalloc ?_
    refine o_nil ?_
    refine s_standL ?_
    exact k_trim [(2, qz), (3, qz), (4, qz), (5, qfn 51), (6, qfn 55), (7, qfn 48), (8, qz), (21, qfn 51), (23, fv X1), (25, fv X2), (27, qfn 51), (29, fv Y1), (31, fv Y2), (33, qfn 51), (35, fv Z1), (37, fv Z2), (26, fv (X1 * X2)), (10, qz), (11, qz)] [(2, lcells X1 Y1 Z1), (3, lcells X2 Y2 Z2), (4, zl.toArray), (8, (fv b).cells), (10, #[.int .u64 0, .int .u64 0, .int .u64 0, .int .u64 0]), (11, #[.int .u64 0, .int .u64 0, .int .u64 0, .int .u64 0])] qhs qhl (r0_41 X1 Y1 Z1 X2 Y2 Z2 b tail _ qle)
theorem r0_16 (tail : ∀ G9, G.le G9 → ∀ s l, Q' .normal (S (SL.sets s [(2, qz), (3, qz), (4, qz), (5, qfn 51), (6, qfn 55), (7, qfn 48), (8, qz), (9, qz), (10, qz), (11, qz)]) (AL.sets l [(2, lcells X1 Y1 Z1), (3, lcells X2 Y2 Z2), (4, zl.toArray), (8, (fv b).cells), (9, (fv (X1 * X2)).cells), (10, (fv (Y1 * Y2)).cells), (11, (fv (Z1 * Z2)).cells)]) G9)) : ∀ G9, G.le G9 → ∀ s l, vplan Try.prog E35 G L35_0 (Q' .normal) p35_0_16 (S (SL.sets s [(2, qz), (3, qz), (4, qz), (5, qfn 51), (6, qfn 55), (7, qfn 48), (8, qz), (21, qfn 51), (23, fv X1), (25, fv X2), (27, qfn 51), (29, fv Y1), (31, fv Y2), (33, qfn 51), (35, fv Z1), (37, fv Z2), (26, fv (X1 * X2))]) (AL.sets l [(2, lcells X1 Y1 Z1), (3, lcells X2 Y2 Z2), (4, zl.toArray), (8, (fv b).cells)]) G9) := by
  intro G9 h9 s l
  dsimp only [SL.sets, AL.sets]
  refine p_alt ?_ ?_
  · refine s_cvT ?_
    intro G' hle
    refine o_nil ?_
    refine s_stand ?_
    exact k_trim [(2, qz), (3, qz), (4, qz), (5, qfn 51), (6, qfn 55), (7, qfn 48), (8, qz), (21, qfn 51), (23, fv X1), (25, fv X2), (27, qfn 51), (29, fv Y1), (31, fv Y2), (33, qfn 51), (35, fv Z1), (37, fv Z2), (26, fv (X1 * X2)), (32, fv (Y1 * Y2))] [(2, lcells X1 Y1 Z1), (3, lcells X2 Y2 Z2), (4, zl.toArray), (8, (fv b).cells)] qhs qhl (r0_17 X1 Y1 Z1 X2 Y2 Z2 b tail _ qle)
  refine p_alt ?_ ?_
  · refine s_lalloc ?_
    refine o_nil ?_
    refine s_standL ?_
    exact k_trim [(2, qz), (3, qz), (4, qz), (5, qfn 51), (6, qfn 55), (7, qfn 48), (8, qz), (21, qfn 51), (23, fv X1), (25, fv X2), (27, qfn 51), (29, fv Y1), (31, fv Y2), (33, qfn 51), (35, fv Z1), (37, fv Z2), (26, fv (X1 * X2)), (9, qz)] [(2, lcells X1 Y1 Z1), (3, lcells X2 Y2 Z2), (4, zl.toArray), (8, (fv b).cells), (9, #[.int .u64 0, .int .u64 0, .int .u64 0, .int .u64 0])] qhs qhl (r0_36 X1 Y1 Z1 X2 Y2 Z2 b tail _ qle)
  refine p_alt ?_ ?_
  · refine s_lalloc ?_
    refine o_nil ?_
    refine s_standL ?_
    exact k_trim [(2, qz), (3, qz), (4, qz), (5, qfn 51), (6, qfn 55), (7, qfn 48), (8, qz), (21, qfn 51), (23, fv X1), (25, fv X2), (27, qfn 51), (29, fv Y1), (31, fv Y2), (33, qfn 51), (35, fv Z1), (37, fv Z2), (26, fv (X1 * X2)), (10, qz)] [(2, lcells X1 Y1 Z1), (3, lcells X2 Y2 Z2), (4, zl.toArray), (8, (fv b).cells), (10, #[.int .u64 0, .int .u64 0, .int .u64 0, .int .u64 0])] qhs qhl (r0_40 X1 Y1 Z1 X2 Y2 Z2 b tail _ qle)
  refine p_alt ?_ p_no
  · refine s_lalloc ?_
    refine o_nil ?_
    refine s_standL ?_
    exact k_trim [(2, qz), (3, qz), (4, qz), (5, qfn 51), (6, qfn 55), (7, qfn 48), (8, qz), (21, qfn 51), (23, fv X1), (25, fv X2), (27, qfn 51), (29, fv Y1), (31, fv Y2), (33, qfn 51), (35, fv Z1), (37, fv Z2), (26, fv (X1 * X2)), (11, qz)] [(2, lcells X1 Y1 Z1), (3, lcells X2 Y2 Z2), (4, zl.toArray), (8, (fv b).cells), (11, #[.int .u64 0, .int .u64 0, .int .u64 0, .int .u64 0])] qhs qhl (r0_42 X1 Y1 Z1 X2 Y2 Z2 b tail _ qle)
theorem r0_45 (tail : ∀ G9, G.le G9 → ∀ s l, Q' .normal (S (SL.sets s [(2, qz), (3, qz), (4, qz), (5, qfn 51), (6, qfn 55), (7, qfn 48), (8, qz), (9, qz), (10, qz), (11, qz)]) (AL.sets l [(2, lcells X1 Y1 Z1), (3, lcells X2 Y2 Z2), (4, zl.toArray), (8, (fv b).cells), (9, (fv (X1 * X2)).cells), (10, (fv (Y1 * Y2)).cells), (11, (fv (Z1 * Z2)).cells)]) G9)) : ∀ G9, G.le G9 → ∀ s l, vplan Try.prog E35 G L35_0 (Q' .normal) p35_0_45 (S (SL.sets s [(2, qz), (3, qz), (4, qz), (5, qfn 51), (6, qfn 55), (7, qfn 48), (8, qz), (21, qfn 51), (23, fv X1), (25, fv X2), (27, qfn 51), (29, fv Y1), (31, fv Y2), (33, qfn 51), (35, fv Z1), (37, fv Z2), (9, qz), (10, qz), (11, qz)]) (AL.sets l [(2, lcells X1 Y1 Z1), (3, lcells X2 Y2 Z2), (4, zl.toArray), (8, (fv b).cells), (9, #[.int .u64 0, .int .u64 0, .int .u64 0, .int .u64 0]), (10, #[.int .u64 0, .int .u64 0, .int .u64 0, .int .u64 0]), (11, #[.int .u64 0, .int .u64 0, .int .u64 0, .int .u64 0])]) G9) := by
  intro G9 h9 s l
  dsimp only [SL.sets, AL.sets]
  refine p_alt ?_ p_no
  · refine s_cvT ?_
    intro G' hle
    refine o_nil ?_
    refine s_stand ?_
    exact k_trim [(2, qz), (3, qz), (4, qz), (5, qfn 51), (6, qfn 55), (7, qfn 48), (8, qz), (21, qfn 51), (23, fv X1), (25, fv X2), (27, qfn 51), (29, fv Y1), (31, fv Y2), (33, qfn 51), (35, fv Z1), (37, fv Z2), (26, fv (X1 * X2)), (9, qz), (10, qz), (11, qz)] [(2, lcells X1 Y1 Z1), (3, lcells X2 Y2 Z2), (4, zl.toArray), (8, (fv b).cells), (9, #[.int .u64 0, .int .u64 0, .int .u64 0, .int .u64 0]), (10, #[.int .u64 0, .int .u64 0, .int .u64 0, .int .u64 0]), (11, #[.int .u64 0, .int .u64 0, .int .u64 0, .int .u64 0])] qhs qhl (r0_38 X1 Y1 Z1 X2 Y2 Z2 b tail _ qle)
theorem r0_44 (tail : ∀ G9, G.le G9 → ∀ s l, Q' .normal (S (SL.sets s [(2, qz), (3, qz), (4, qz), (5, qfn 51), (6, qfn 55), (7, qfn 48), (8, qz), (9, qz), (10, qz), (11, qz)]) (AL.sets l [(2, lcells X1 Y1 Z1), (3, lcells X2 Y2 Z2), (4, zl.toArray), (8, (fv b).cells), (9, (fv (X1 * X2)).cells), (10, (fv (Y1 * Y2)).cells), (11, (fv (Z1 * Z2)).cells)]) G9)) : ∀ G9, G.le G9 → ∀ s l, vplan Try.prog E35 G L35_0 (Q' .normal) p35_0_44 (S (SL.sets s [(2, qz), (3, qz), (4, qz), (5, qfn 51), (6, qfn 55), (7, qfn 48), (8, qz), (21, qfn 51), (23, fv X1), (25, fv X2), (27, qfn 51), (29, fv Y1), (31, fv Y2), (33, qfn 51), (35, fv Z1), (37, fv Z2), (9, qz), (10, qz)]) (AL.sets l [(2, lcells X1 Y1 Z1), (3, lcells X2 Y2 Z2), (4, zl.toArray), (8, (fv b).cells), (9, #[.int .u64 0, .int .u64 0, .int .u64 0, .int .u64 0]), (10, #[.int .u64 0, .int .u64 0, .int .u64 0, .int .u64 0])]) G9) := by
  intro G9 h9 s l
  dsimp only [SL.sets, AL.sets]
  refine p_alt ?_ ?_
  · refine s_cvT ?_
    intro G' hle
    refine o_nil ?_
    refine s_stand ?_
    exact k_trim [(2, qz), (3, qz), (4, qz), (5, qfn 51), (6, qfn 55), (7, qfn 48), (8, qz), (21, qfn 51), (23, fv X1), (25, fv X2), (27, qfn 51), (29, fv Y1), (31, fv Y2), (33, qfn 51), (35, fv Z1), (37, fv Z2), (26, fv (X1 * X2)), (9, qz), (10, qz)] [(2, lcells X1 Y1 Z1), (3, lcells X2 Y2 Z2), (4, zl.toArray), (8, (fv b).cells), (9, #[.int .u64 0, .int .u64 0, .int .u64 0, .int .u64 0]), (10, #[.int .u64 0, .int .u64 0, .int .u64 0, .int .u64 0])] qhs qhl (r0_37 X1 Y1 Z1 X2 Y2 Z2 b tail _ qle)
  refine p_alt ?_ p_no
  · refine s_lalloc ?_
    refine o_nil ?_
    refine s_standL ?_
    exact k_trim [(2, qz), (3, qz), (4, qz), (5, qfn 51), (6, qfn 55), (7, qfn 48), (8, qz), (21, qfn 51), (23, fv X1), (25, fv X2), (27, qfn 51), (29, fv Y1), (31, fv Y2), (33, qfn 51), (35, fv Z1), (37, fv Z2), (9, qz), (10, qz), (11, qz)] [(2, lcells X1 Y1 Z1), (3, lcells X2 Y2 Z2), (4, zl.toArray), (8, (fv b).cells), (9, #[.int .u64 0, .int .u64 0, .int .u64 0, .int .u64 0]), (10, #[.int .u64 0, .int .u64 0, .int .u64 0, .int .u64 0]), (11, #[.int .u64 0, .int .u64 0, .int .u64 0, .int .u64 0])] qhs qhl (r0_45 X1 Y1 Z1 X2 Y2 Z2 b tail _ qle)
theorem r0_46 (tail : ∀ G9, G.le G9 → ∀ s l, Q' .normal (S (SL.sets s [(2, qz), (3, qz), (4, qz), (5, qfn 51), (6, qfn 55), (7, qfn 48), (8, qz), (9, qz), (10, qz), (11, qz)]) (AL.sets l [(2, lcells X1 Y1 Z1), (3, lcells X2 Y2 Z2), (4, zl.toArray), (8, (fv b).cells), (9, (fv (X1 * X2)).cells), (10, (fv (Y1 * Y2)).cells), (11, (fv (Z1 * Z2)).cells)]) G9)) : ∀ G9, G.le G9 → ∀ s l, vplan Try.prog E35 G L35_0 (Q' .normal) p35_0_46 (S (SL.sets s [(2, qz), (3, qz), (4, qz), (5, qfn 51), (6, qfn 55), (7, qfn 48), (8, qz), (21, qfn 51), (23, fv X1), (25, fv X2), (27, qfn 51), (29, fv Y1), (31, fv Y2), (33, qfn 51), (35, fv Z1), (37, fv Z2), (9, qz), (11, qz)]) (AL.sets l [(2, lcells X1 Y1 Z1), (3, lcells X2 Y2 Z2), (4, zl.toArray), (8, (fv b).cells), (9, #[.int .u64 0, .int .u64 0, .int .u64 0, .int .u64 0]), (11, #[.int .u64 0, .int .u64 0, .int .u64 0, .int .u64 0])]) G9) := by
  intro G9 h9 s l
  dsimp only [SL.sets, AL.sets]
  refine p_alt ?_ ?_
  · refine s_cvT ?_
    intro G' hle
    refine o_nil ?_
    refine s_stand ?_
    exact k_trim [(2, qz), (3, qz), (4, qz), (5, qfn 51), (6, qfn 55), (7, qfn 48), (8, qz), (21, qfn 51), (23, fv X1), (25, fv X2), (27, qfn 51), (29, fv Y1), (31, fv Y2), (33, qfn 51), (35, fv Z1), (37, fv Z2), (26, fv (X1 * X2)), (9, qz), (11, qz)] [(2, lcells X1 Y1 Z1), (3, lcells X2 Y2 Z2), (4, zl.toArray), (8, (fv b).cells), (9, #[.int .u64 0, .int .u64 0, .int .u64 0, .int .u64 0]), (11, #[.int .u64 0, .int .u64 0, .int .u64 0, .int .u64 0])] qhs qhl (r0_39 X1 Y1 Z1 X2 Y2 Z2 b tail _ qle)
  refine p_alt ?_ p_no
  · refine s_lalloc ?_
    refine o_nil ?_
    refine s_standL ?_
    exact k_trim [(2, qz), (3, qz), (4, qz), (5, qfn 51), (6, qfn 55), (7, qfn 48), (8, qz), (21, qfn 51), (23, fv X1), (25, fv X2), (27, qfn 51), (29, fv Y1), (31, fv Y2), (33, qfn 51), (35, fv Z1), (37, fv Z2), (9, qz), (10, qz), (11, qz)] [(2, lcells X1 Y1 Z1), (3, lcells X2 Y2 Z2), (4, zl.toArray), (8, (fv b).cells), (9, #[.int .u64 0, .int .u64 0, .int .u64 0, .int .u64 0]), (10, #[.int .u64 0, .int .u64 0, .int .u64 0, .int .u64 0]), (11, #[.int .u64 0, .int .u64 0, .int .u64 0, .int .u64 0])] qhs qhl (r0_45 X1 Y1 Z1 X2 Y2 Z2 b tail _ qle)
theorem r0_43 (tail : ∀ G9, G.le G9 → ∀ s l, Q' .normal (S (SL.sets s [(2, qz), (3, qz), (4, qz), (5, qfn 51), (6, qfn 55), (7, qfn 48), (8, qz), (9, qz), (10, qz), (11, qz)]) (AL.sets l [(2, lcells X1 Y1 Z1), (3, lcells X2 Y2 Z2), (4, zl.toArray), (8, (fv b).cells), (9, (fv (X1 * X2)).cells), (10, (fv (Y1 * Y2)).cells), (11, (fv (Z1 * Z2)).cells)]) G9)) : ∀ G9, G.le G9 → ∀ s l, vplan Try.prog E35 G L35_0 (Q' .normal) p35_0_43 (S (SL.sets s [(2, qz), (3, qz), (4, qz), (5, qfn 51), (6, qfn 55), (7, qfn 48), (8, qz), (21, qfn 51), (23, fv X1), (25, fv X2), (27, qfn 51), (29, fv Y1), (31, fv Y2), (33, qfn 51), (35, fv Z1), (37, fv Z2), (9, qz)]) (AL.sets l [(2, lcells X1 Y1 Z1), (3, lcells X2 Y2 Z2), (4, zl.toArray), (8, (fv b).cells), (9, #[.int .u64 0, .int .u64 0, .int .u64 0, .int .u64 0])]) G9) := by
  intro G9 h9 s l
  dsimp only [SL.sets, AL.sets]
  refine p_alt ?_ ?_
  · refine s_cvT ?_
    intro G' hle
    refine o_nil ?_
    refine s_stand ?_
    exact k_trim [(2, qz), (3, qz), (4, qz), (5, qfn 51), (6, qfn 55), (7, qfn 48), (8, qz), (21, qfn 51), (23, fv X1), (25, fv X2), (27, qfn 51), (29, fv Y1), (31, fv Y2), (33, qfn 51), (35, fv Z1), (37, fv Z2), (26, fv (X1 * X2)), (9, qz)] [(2, lcells X1 Y1 Z1), (3, lcells X2 Y2 Z2), (4, zl.toArray), (8, (fv b).cells), (9, #[.int .u64 0, .int .u64 0, .int .u64 0, .int .u64 0])] qhs qhl (r0_36 X1 Y1 Z1 X2 Y2 Z2 b tail _ qle)
  refine p_alt ?_ ?_
  · refine s_lalloc ?_
    refine o_nil ?_
    refine s_standL ?_
    exact k_trim [(2, qz), (3, qz), (4, qz), (5, qfn 51), (6, qfn 55), (7, qfn 48), (8, qz), (21, qfn 51), (23, fv X1), (25, fv X2), (27, qfn 51), (29, fv Y1), (31, fv Y2), (33, qfn 51), (35, fv Z1), (37, fv Z2), (9, qz), (10, qz)] [(2, lcells X1 Y1 Z1), (3, lcells X2 Y2 Z2), (4, zl.toArray), (8, (fv b).cells), (9, #[.int .u64 0, .int .u64 0, .int .u64 0, .int .u64 0]), (10, #[.int .u64 0, .int .u64 0, .int .u64 0, .int .u64 0])] qhs qhl (r0_44 X1 Y1 Z1 X2 Y2 Z2 b tail _ qle)
  refine p_alt ?_ p_no
  · refine s_lalloc ?_
    refine o_nil ?_
    refine s_standL ?_
    exact k_trim [(2, qz), (3, qz), (4, qz), (5, qfn 51), (6, qfn 55), (7, qfn 48), (8, qz), (21, qfn 51), (23, fv X1), (25, fv X2), (27, qfn 51), (29, fv Y1), (31, fv Y2), (33, qfn 51), (35, fv Z1), (37, fv Z2), (9, qz), (11, qz)] [(2, lcells X1 Y1 Z1), (3, lcells X2 Y2 Z2), (4, zl.toArray), (8, (fv b).cells), (9, #[.int .u64 0, .int .u64 0, .int .u64 0, .int .u64 0]), (11, #[.int .u64 0, .int .u64 0, .int .u64 0, .int .u64 0])] qhs qhl (r0_46 X1 Y1 Z1 X2 Y2 Z2 b tail _ qle)
theorem r0_48 (tail : ∀ G9, G.le G9 → ∀ s l, Q' .normal (S (SL.sets s [(2, qz), (3, qz), (4, qz), (5, qfn 51), (6, qfn 55), (7, qfn 48), (8, qz), (9, qz), (10, qz), (11, qz)]) (AL.sets l [(2, lcells X1 Y1 Z1), (3, lcells X2 Y2 Z2), (4, zl.toArray), (8, (fv b).cells), (9, (fv (X1 * X2)).cells), (10, (fv (Y1 * Y2)).cells), (11, (fv (Z1 * Z2)).cells)]) G9)) : ∀ G9, G.le G9 → ∀ s l, vplan Try.prog E35 G L35_0 (Q' .normal) p35_0_48 (S (SL.sets s [(2, qz), (3, qz), (4, qz), (5, qfn 51), (6, qfn 55), (7, qfn 48), (8, qz), (21, qfn 51), (23, fv X1), (25, fv X2), (27, qfn 51), (29, fv Y1), (31, fv Y2), (33, qfn 51), (35, fv Z1), (37, fv Z2), (10, qz), (11, qz)]) (AL.sets l [(2, lcells X1 Y1 Z1), (3, lcells X2 Y2 Z2), (4, zl.toArray), (8, (fv b).cells), (10, #[.int .u64 0, .int .u64 0, .int .u64 0, .int .u64 0]), (11, #[.int .u64 0, .int .u64 0, .int .u64 0, .int .u64 0])]) G9) := by
  intro G9 h9 s l
  dsimp only [SL.sets, AL.sets]
  refine p_alt ?_ ?_
  · refine s_cvT ?_
    intro G' hle
    refine o_nil ?_
    refine s_stand ?_
    exact k_trim [(2, qz), (3, qz), (4, qz), (5, qfn 51), (6, qfn 55), (7, qfn 48), (8, qz), (21, qfn 51), (23, fv X1), (25, fv X2), (27, qfn 51), (29, fv Y1), (31, fv Y2), (33, qfn 51), (35, fv Z1), (37, fv Z2), (26, fv (X1 * X2)), (10, qz), (11, qz)] [(2, lcells X1 Y1 Z1), (3, lcells X2 Y2 Z2), (4, zl.toArray), (8, (fv b).cells), (10, #[.int .u64 0, .int .u64 0, .int .u64 0, .int .u64 0]), (11, #[.int .u64 0, .int .u64 0, .int .u64 0, .int .u64 0])] qhs qhl (r0_41 X1 Y1 Z1 X2 Y2 Z2 b tail _ qle)
  refine p_alt ?_ p_no
  · refine s_lalloc ?_
    refine o_nil ?_
    refine s_standL ?_
    exact k_trim [(2, qz), (3, qz), (4, qz), (5, qfn 51), (6, qfn 55), (7, qfn 48), (8, qz), (21, qfn 51), (23, fv X1), (25, fv X2), (27, qfn 51), (29, fv Y1), (31, fv Y2), (33, qfn 51), (35, fv Z1), (37, fv Z2), (9, qz), (10, qz), (11, qz)] [(2, lcells X1 Y1 Z1), (3, lcells X2 Y2 Z2), (4, zl.toArray), (8, (fv b).cells), (9, #[.int .u64 0, .int .u64 0, .int .u64 0, .int .u64 0]), (10, #[.int .u64 0, .int .u64 0, .int .u64 0, .int .u64 0]), (11, #[.int .u64 0, .int .u64 0, .int .u64 0, .int .u64 0])] qhs qhl (r0_45 X1 Y1 Z1 X2 Y2 Z2 b tail _ qle)
theorem r0_47 (tail : ∀ G9, G.le G9 → ∀ s l, Q' .normal (S (SL.sets s [(2, qz), (3, qz), (4, qz), (5, qfn 51), (6, qfn 55), (7, qfn 48), (8, qz), (9, qz), (10, qz), (11, qz)]) (AL.sets l [(2, lcells X1 Y1 Z1), (3, lcells X2 Y2 Z2), (4, zl.toArray), (8, (fv b).cells), (9, (fv (X1 * X2)).cells), (10, (fv (Y1 * Y2)).cells), (11, (fv (Z1 * Z2)).cells)]) G9)) : ∀ G9, G.le G9 → ∀ s l, vplan Try.prog E35 G L35_0 (Q' .normal) p35_0_47 (S (SL.sets s [(2, qz), (3, qz), (4, qz), (5, qfn 51), (6, qfn 55), (7, qfn 48), (8, qz), (21, qfn 51), (23, fv X1), (25, fv X2), (27, qfn 51), (29, fv Y1), (31, fv Y2), (33, qfn 51), (35, fv Z1), (37, fv Z2), (10, qz)]) (AL.sets l [(2, lcells X1 Y1 Z1), (3, lcells X2 Y2 Z2), (4, zl.toArray), (8, (fv b).cells), (10, #[.int .u64 0, .int .u64 0, .int .u64 0, .int .u64 0])]) G9) := by
  intro G9 h9 s l
  dsimp only [SL.sets, AL.sets]
  refine p_alt ?_ ?_
  · refine s_cvT ?_
    intro G' hle
    refine o_nil ?_
    refine s_stand ?_
    exact k_trim [(2, qz), (3, qz), (4, qz), (5, qfn 51), (6, qfn 55), (7, qfn 48), (8, qz), (21, qfn 51), (23, fv X1), (25, fv X2), (27, qfn 51), (29, fv Y1), (31, fv Y2), (33, qfn 51), (35, fv Z1), (37, fv Z2), (26, fv (X1 * X2)), (10, qz)] [(2, lcells X1 Y1 Z1), (3, lcells X2 Y2 Z2), (4, zl.toArray), (8, (fv b).cells), (10, #[.int .u64 0, .int .u64 0, .int .u64 0, .int .u64 0])] qhs qhl (r0_40 X1 Y1 Z1 X2 Y2 Z2 b tail _ qle)
  refine p_alt ?_ ?_
  · refine s_lalloc ?_
    refine o_nil ?_
    refine s_standL ?_
    exact k_trim [(2, qz), (3, qz), (4, qz), (5, qfn 51), (6, qfn 55), (7, qfn 48), (8, qz), (21, qfn 51), (23, fv X1), (25, fv X2), (27, qfn 51), (29, fv Y1), (31, fv Y2), (33, qfn 51), (35, fv Z1), (37, fv Z2), (9, qz), (10, qz)] [(2, lcells X1 Y1 Z1), (3, lcells X2 Y2 Z2), (4, zl.toArray), (8, (fv b).cells), (9, #[.int .u64 0, .int .u64 0, .int .u64 0, .int .u64 0]), (10, #[.int .u64 0, .int .u64 0, .int .u64 0, .int .u64 0])] qhs qhl (r0_44 X1 Y1 Z1 X2 Y2 Z2 b tail _ qle)
  refine p_alt ?_ p_no
  · refine s_lalloc ?_
    refine o_nil ?_
    refine s_standL ?_
    exact k_trim [(2, qz), (3, qz), (4, qz), (5, qfn 51), (6, qfn 55), (7, qfn 48), (8, qz), (21, qfn 51), (23, fv X1), (25, fv X2), (27, qfn 51), (29, fv Y1), (31, fv Y2), (33, qfn 51), (35, fv Z1), (37, fv Z2), (10, qz), (11, qz)] [(2, lcells X1 Y1 Z1), (3, lcells X2 Y2 Z2), (4, zl.toArray), (8, (fv b).cells), (10, #[.int .u64 0, .int .u64 0, .int .u64 0, .int .u64 0]), (11, #[.int .u64 0, .int .u64 0, .int .u64 0, .int .u64 0])] qhs qhl (r0_48 X1 Y1 Z1 X2 Y2 Z2 b tail _ qle)
theorem r0_49 (tail : ∀ G9, G.le G9 → ∀ s l, Q' .normal (S (SL.sets s [(2, qz), (3, qz), (4, qz), (5, qfn 51), (6, qfn 55), (7, qfn 48), (8, qz), (9, qz), (10, qz), (11, qz)]) (AL.sets l [(2, lcells X1 Y1 Z1), (3, lcells X2 Y2 Z2), (4, zl.toArray), (8, (fv b).cells), (9, (fv (X1 * X2)).cells), (10, (fv (Y1 * Y2)).cells), (11, (fv (Z1 * Z2)).cells)]) G9)) : ∀ G9, G.le G9 → ∀ s l, vplan Try.prog E35 G L35_0 (Q' .normal) p35_0_49 (S (SL.sets s [(2, qz), (3, qz), (4, qz), (5, qfn 51), (6, qfn 55), (7, qfn 48), (8, qz), (21, qfn 51), (23, fv X1), (25, fv X2), (27, qfn 51), (29, fv Y1), (31, fv Y2), (33, qfn 51), (35, fv Z1), (37, fv Z2), (11, qz)]) (AL.sets l [(2, lcells X1 Y1 Z1), (3, lcells X2 Y2 Z2), (4, zl.toArray), (8, (fv b).cells), (11, #[.int .u64 0, .int .u64 0, .int .u64 0, .int .u64 0])]) G9) := by
  intro G9 h9 s l
  dsimp only [SL.sets, AL.sets]
  refine p_alt ?_ ?_
  · refine s_cvT ?_
    intro G' hle
    refine o_nil ?_
    refine s_stand ?_
    exact k_trim [(2, qz), (3, qz), (4, qz), (5, qfn 51), (6, qfn 55), (7, qfn 48), (8, qz), (21, qfn 51), (23, fv X1), (25, fv X2), (27, qfn 51), (29, fv Y1), (31, fv Y2), (33, qfn 51), (35, fv Z1), (37, fv Z2), (26, fv (X1 * X2)), (11, qz)] [(2, lcells X1 Y1 Z1), (3, lcells X2 Y2 Z2), (4, zl.toArray), (8, (fv b).cells), (11, #[.int .u64 0, .int .u64 0, .int .u64 0, .int .u64 0])] qhs qhl (r0_42 X1 Y1 Z1 X2 Y2 Z2 b tail _ qle)
  refine p_alt ?_ ?_
  · refine s_lalloc ?_
    refine o_nil ?_
    refine s_standL ?_
    exact k_trim [(2, qz), (3, qz), (4, qz), (5, qfn 51), (6, qfn 55), (7, qfn 48), (8, qz), (21, qfn 51), (23, fv X1), (25, fv X2), (27, qfn 51), (29, fv Y1), (31, fv Y2), (33, qfn 51), (35, fv Z1), (37, fv Z2), (9, qz), (11, qz)] [(2, lcells X1 Y1 Z1), (3, lcells X2 Y2 Z2), (4, zl.toArray), (8, (fv b).cells), (9, #[.int .u64 0, .int .u64 0, .int .u64 0, .int .u64 0]), (11, #[.int .u64 0, .int .u64 0, .int .u64 0, .int .u64 0])] qhs qhl (r0_46 X1 Y1 Z1 X2 Y2 Z2 b tail _ qle)
  refine p_alt ?_ p_no
  · refine s_lalloc ?_
    refine o_nil ?_
    refine s_standL ?_
    exact k_trim [(2, qz), (3, qz), (4, qz), (5, qfn 51), (6, qfn 55), (7, qfn 48), (8, qz), (21, qfn 51), (23, fv X1), (25, fv X2), (27, qfn 51), (29, fv Y1), (31, fv Y2), (33, qfn 51), (35, fv Z1), (37, fv Z2), (10, qz), (11, qz)] [(2, lcells X1 Y1 Z1), (3, lcells X2 Y2 Z2), (4, zl.toArray), (8, (fv b).cells), (10, #[.int .u64 0, .int .u64 0, .int .u64 0, .int .u64 0]), (11, #[.int .u64 0, .int .u64 0, .int .u64 0, .int .u64 0])] qhs qhl (r0_48 X1 Y1 Z1 X2 Y2 Z2 b tail _ qle)
theorem r0_15 (tail : ∀ G9, G.le G9 → ∀ s l, Q' .normal (S (SL.sets s [(2, qz), (3, qz), (4, qz), (5, qfn 51), (6, qfn 55), (7, qfn 48), (8, qz), (9, qz), (10, qz), (11, qz)]) (AL.sets l [(2, lcells X1 Y1 Z1), (3, lcells X2 Y2 Z2), (4, zl.toArray), (8, (fv b).cells), (9, (fv (X1 * X2)).cells), (10, (fv (Y1 * Y2)).cells), (11, (fv (Z1 * Z2)).cells)]) G9)) : ∀ G9, G.le G9 → ∀ s l, vplan Try.prog E35 G L35_0 (Q' .normal) p35_0_15 (S (SL.sets s [(2, qz), (3, qz), (4, qz), (5, qfn 51), (6, qfn 55), (7, qfn 48), (8, qz), (21, qfn 51), (23, fv X1), (25, fv X2), (27, qfn 51), (29, fv Y1), (31, fv Y2), (33, qfn 51), (35, fv Z1), (37, fv Z2)]) (AL.sets l [(2, lcells X1 Y1 Z1), (3, lcells X2 Y2 Z2), (4, zl.toArray), (8, (fv b).cells)]) G9) := by
  intro G9 h9 s l
  dsimp only [SL.sets, AL.sets]
  refine p_alt ?_ ?_
  · refine s_cvT ?_
    intro G' hle
    refine o_nil ?_
    refine s_stand ?_
    exact k_trim [(2, qz), (3, qz), (4, qz), (5, qfn 51), (6, qfn 55), (7, qfn 48), (8, qz), (21, qfn 51), (23, fv X1), (25, fv X2), (27, qfn 51), (29, fv Y1), (31, fv Y2), (33, qfn 51), (35, fv Z1), (37, fv Z2), (26, fv (X1 * X2))] [(2, lcells X1 Y1 Z1), (3, lcells X2 Y2 Z2), (4, zl.toArray), (8, (fv b).cells)] qhs qhl (r0_16 X1 Y1 Z1 X2 Y2 Z2 b tail _ qle)
  refine p_alt ?_ ?_
  · refine s_lalloc ?_
    refine o_nil ?_
    refine s_standL ?_
    exact k_trim [(2, qz), (3, qz), (4, qz), (5, qfn 51), (6, qfn 55), (7, qfn 48), (8, qz), (21, qfn 51), (23, fv X1), (25, fv X2), (27, qfn 51), (29, fv Y1), (31, fv Y2), (33, qfn 51), (35, fv Z1), (37, fv Z2), (9, qz)] [(2, lcells X1 Y1 Z1), (3, lcells X2 Y2 Z2), (4, zl.toArray), (8, (fv b).cells), (9, #[.int .u64 0, .int .u64 0, .int .u64 0, .int .u64 0])] qhs qhl (r0_43 X1 Y1 Z1 X2 Y2 Z2 b tail _ qle)
  refine p_alt ?_ ?_
  · refine s_lalloc ?_
    refine o_nil ?_
    refine s_standL ?_
    exact k_trim [(2, qz), (3, qz), (4, qz), (5, qfn 51), (6, qfn 55), (7, qfn 48), (8, qz), (21, qfn 51), (23, fv X1), (25, fv X2), (27, qfn 51), (29, fv Y1), (31, fv Y2), (33, qfn 51), (35, fv Z1), (37, fv Z2), (10, qz)] [(2, lcells X1 Y1 Z1), (3, lcells X2 Y2 Z2), (4, zl.toArray), (8, (fv b).cells), (10, #[.int .u64 0, .int .u64 0, .int .u64 0, .int .u64 0])] qhs qhl (r0_47 X1 Y1 Z1 X2 Y2 Z2 b tail _ qle)
  refine p_alt ?_ p_no
  · refine s_lalloc ?_
    refine o_nil ?_
    refine s_standL ?_
    exact k_trim [(2, qz), (3, qz), (4, qz), (5, qfn 51), (6, qfn 55), (7, qfn 48), (8, qz), (21, qfn 51), (23, fv X1), (25, fv X2), (27, qfn 51), (29, fv Y1), (31, fv Y2), (33, qfn 51), (35, fv Z1), (37, fv Z2), (11, qz)] [(2, lcells X1 Y1 Z1), (3, lcells X2 Y2 Z2), (4, zl.toArray), (8, (fv b).cells), (11, #[.int .u64 0, .int .u64 0, .int .u64 0, .int .u64 0])] qhs qhl (r0_49 X1 Y1 Z1 X2 Y2 Z2 b tail _ qle)
theorem plR0 (tail : ∀ G9, G.le G9 → ∀ s l, Q' .normal (S (SL.sets s [(2, qz), (3, qz), (4, qz), (5, qfn 51), (6, qfn 55), (7, qfn 48), (8, qz), (9, qz), (10, qz), (11, qz)]) (AL.sets l [(2, lcells X1 Y1 Z1), (3, lcells X2 Y2 Z2), (4, zl.toArray), (8, (fv b).cells), (9, (fv (X1 * X2)).cells), (10, (fv (Y1 * Y2)).cells), (11, (fv (Z1 * Z2)).cells)]) G9)) (s : Nat → Value) (l : Nat → Array Value) : vc Try.prog E35 (.draw L35_0 p35_0_0) Q' (S (SL.sets s [(2, qz), (3, qz), (4, qz), (5, qfn 51), (6, qfn 55), (7, qfn 48), (8, qz)]) (AL.sets l [(2, lcells X1 Y1 Z1), (3, lcells X2 Y2 Z2), (4, zl.toArray), (8, (fv b).cells)]) G) := by
  dsimp only [SL.sets, AL.sets]
  refine v_draw0 ?_
  refine s_pre (pl' := p35_0_15) ?_
  generalize hK : vplan Try.prog E35 G L35_0 (Q' .normal) p35_0_15 = K'
  (repeat (with_reducible refine i_ops ?_; first | (refine g_mv ?_; refine s_mv ?_) | refine o_nil ?_ | (refine g_lfield ?_; refine s_lfield ?_) | (refine g_lload ?_; first | refine s_lloadLX ?_ | refine s_lloadLY ?_ | refine s_lloadLZ ?_)))
  subst hK
  exact k_trim [(2, qz), (3, qz), (4, qz), (5, qfn 51), (6, qfn 55), (7, qfn 48), (8, qz), (21, qfn 51), (23, fv X1), (25, fv X2), (27, qfn 51), (29, fv Y1), (31, fv Y2), (33, qfn 51), (35, fv Z1), (37, fv Z2)] [(2, lcells X1 Y1 Z1), (3, lcells X2 Y2 Z2), (4, zl.toArray), (8, (fv b).cells)] qhs qhl (r0_15 X1 Y1 Z1 X2 Y2 Z2 b tail _ (GH.le_refl _))
end
end Go.Proofs.Ytdeihgcgglhhcaa.V
end
section
/- The sum of two places: the other products. -/
set_option linter.unusedSimpArgs false
set_option linter.unusedVariables false
set_option maxRecDepth 20000
-- @pre g_lload s_lloadL s_lloadLX s_lloadLY s_lloadLZ s_lloadF
-- @pre g_lstore s_lstoreL s_lstoreF
-- @pre g_lbox s_lboxL s_lboxF
-- @pre g_build s_bl3
-- @step (refine g_callv ?_; first | (refine s_cvT ?_; intro G' hle) | refine s_cvP ?_ | refine s_cvM ?_)
namespace Go.Proofs.Ytdeihgcgglhhcaa.V
open Go.RowKit Go.ChangeShapes Go.WideShapes
section
variable {Q' : Exit → St → Prop} {G : GH} {X1 Y1 Z1 X2 Y2 Z2 b xx yy zz xy yz xz u v w s1 d1 : Fp}
theorem plR1 (tail : ∀ G9, G.le G9 → ∀ s l, Q' .normal (S (SL.sets s [(2, qz), (3, qz), (4, qz), (5, qfn 51), (6, qfn 55), (7, qfn 48), (8, qz), (9, qz), (10, qz), (11, qz), (12, qz)]) (AL.sets l [(2, lcells X1 Y1 Z1), (3, lcells X2 Y2 Z2), (4, zl.toArray), (8, (fv b).cells), (9, (fv xx).cells), (10, (fv yy).cells), (11, (fv zz).cells), (12, (fv ((X1 * Y2) + (X2 * Y1))).cells)]) G9)) (s : Nat → Value) (l : Nat → Array Value) : vc Try.prog E35 (.draw L35_1 p35_1_0) Q' (S (SL.sets s [(2, qz), (3, qz), (4, qz), (5, qfn 51), (6, qfn 55), (7, qfn 48), (8, qz), (9, qz), (10, qz), (11, qz)]) (AL.sets l [(2, lcells X1 Y1 Z1), (3, lcells X2 Y2 Z2), (4, zl.toArray), (8, (fv b).cells), (9, (fv xx).cells), (10, (fv yy).cells), (11, (fv zz).cells)]) G) := by
  dsimp only [SL.sets, AL.sets]
  (repeat' (first | (with_reducible refine i_ops ?_; first | (refine g_callv ?_; first | (refine s_cvT ?_; intro G' hle) | refine s_cvP ?_) | (refine g_mv ?_; refine s_mv ?_) | refine o_nil ?_ | (refine g_lfield ?_; refine s_lfield ?_) | (refine g_lload ?_; first | refine s_lloadLX ?_ | refine s_lloadLY ?_) | (refine g_lstore ?_; refine s_lstoreF ?_) | (refine g_lalloc ?_; refine s_lalloc ?_)) | (with_reducible refine i_vc ?_; refine v_draw0 ?_) | (with_reducible refine i_plan ?_; first | refine p_done ?_ | refine s_pre ?_ | refine s_alt ?_ | refine p_alt ?_ ?_) | (with_reducible (refine g_stand ?_; first | refine s_stand ?_ | refine s_standL ?_))))
  all_goals exact k_trim [(2, qz), (3, qz), (4, qz), (5, qfn 51), (6, qfn 55), (7, qfn 48), (8, qz), (9, qz), (10, qz), (11, qz), (12, qz)] [(2, lcells X1 Y1 Z1), (3, lcells X2 Y2 Z2), (4, zl.toArray), (8, (fv b).cells), (9, (fv xx).cells), (10, (fv yy).cells), (11, (fv zz).cells), (12, (fv ((X1 * Y2) + (X2 * Y1))).cells)] qhs qhl (tail _ qle)
theorem plR2 (tail : ∀ G9, G.le G9 → ∀ s l, Q' .normal (S (SL.sets s [(2, qz), (3, qz), (4, qz), (5, qfn 51), (6, qfn 55), (7, qfn 48), (8, qz), (9, qz), (10, qz), (11, qz), (12, qz), (13, qz)]) (AL.sets l [(2, lcells X1 Y1 Z1), (3, lcells X2 Y2 Z2), (4, zl.toArray), (8, (fv b).cells), (9, (fv xx).cells), (10, (fv yy).cells), (11, (fv zz).cells), (12, (fv xy).cells), (13, (fv ((Y1 * Z2) + (Y2 * Z1))).cells)]) G9)) (s : Nat → Value) (l : Nat → Array Value) : vc Try.prog E35 (.draw L35_2 p35_2_0) Q' (S (SL.sets s [(2, qz), (3, qz), (4, qz), (5, qfn 51), (6, qfn 55), (7, qfn 48), (8, qz), (9, qz), (10, qz), (11, qz), (12, qz)]) (AL.sets l [(2, lcells X1 Y1 Z1), (3, lcells X2 Y2 Z2), (4, zl.toArray), (8, (fv b).cells), (9, (fv xx).cells), (10, (fv yy).cells), (11, (fv zz).cells), (12, (fv xy).cells)]) G) := by
  dsimp only [SL.sets, AL.sets]
  (repeat' (first | (with_reducible refine i_ops ?_; first | (refine g_callv ?_; first | (refine s_cvT ?_; intro G' hle) | refine s_cvP ?_) | (refine g_mv ?_; refine s_mv ?_) | refine o_nil ?_ | (refine g_lfield ?_; refine s_lfield ?_) | (refine g_lload ?_; first | refine s_lloadLY ?_ | refine s_lloadLZ ?_) | (refine g_lstore ?_; refine s_lstoreF ?_) | (refine g_lalloc ?_; refine s_lalloc ?_)) | (with_reducible refine i_vc ?_; refine v_draw0 ?_) | (with_reducible refine i_plan ?_; first | refine p_done ?_ | refine s_pre ?_ | refine s_alt ?_ | refine p_alt ?_ ?_) | (with_reducible (refine g_stand ?_; first | refine s_stand ?_ | refine s_standL ?_))))
  all_goals exact k_trim [(2, qz), (3, qz), (4, qz), (5, qfn 51), (6, qfn 55), (7, qfn 48), (8, qz), (9, qz), (10, qz), (11, qz), (12, qz), (13, qz)] [(2, lcells X1 Y1 Z1), (3, lcells X2 Y2 Z2), (4, zl.toArray), (8, (fv b).cells), (9, (fv xx).cells), (10, (fv yy).cells), (11, (fv zz).cells), (12, (fv xy).cells), (13, (fv ((Y1 * Z2) + (Y2 * Z1))).cells)] qhs qhl (tail _ qle)
theorem plR3 (tail : ∀ G9, G.le G9 → ∀ s l, Q' .normal (S (SL.sets s [(4, qz), (5, qfn 51), (6, qfn 55), (7, qfn 48), (8, qz), (9, qz), (10, qz), (11, qz), (12, qz), (13, qz), (14, qz)]) (AL.sets l [(4, zl.toArray), (8, (fv b).cells), (9, (fv xx).cells), (10, (fv yy).cells), (11, (fv zz).cells), (12, (fv xy).cells), (13, (fv yz).cells), (14, (fv ((X1 * Z2) + (X2 * Z1))).cells)]) G9)) (s : Nat → Value) (l : Nat → Array Value) : vc Try.prog E35 (.draw L35_3 p35_3_0) Q' (S (SL.sets s [(2, qz), (3, qz), (4, qz), (5, qfn 51), (6, qfn 55), (7, qfn 48), (8, qz), (9, qz), (10, qz), (11, qz), (12, qz), (13, qz)]) (AL.sets l [(2, lcells X1 Y1 Z1), (3, lcells X2 Y2 Z2), (4, zl.toArray), (8, (fv b).cells), (9, (fv xx).cells), (10, (fv yy).cells), (11, (fv zz).cells), (12, (fv xy).cells), (13, (fv yz).cells)]) G) := by
  dsimp only [SL.sets, AL.sets]
  (repeat' (first | (with_reducible refine i_ops ?_; first | (refine g_callv ?_; first | (refine s_cvT ?_; intro G' hle) | refine s_cvP ?_) | (refine g_mv ?_; refine s_mv ?_) | refine o_nil ?_ | (refine g_lfield ?_; refine s_lfield ?_) | (refine g_lload ?_; first | refine s_lloadLX ?_ | refine s_lloadLZ ?_) | (refine g_lstore ?_; refine s_lstoreF ?_) | (refine g_lalloc ?_; refine s_lalloc ?_)) | (with_reducible refine i_vc ?_; refine v_draw0 ?_) | (with_reducible refine i_plan ?_; first | refine p_done ?_ | refine s_pre ?_ | refine s_alt ?_ | refine p_alt ?_ ?_) | (with_reducible (refine g_stand ?_; first | refine s_stand ?_ | refine s_standL ?_))))
  all_goals exact k_trim [(4, qz), (5, qfn 51), (6, qfn 55), (7, qfn 48), (8, qz), (9, qz), (10, qz), (11, qz), (12, qz), (13, qz), (14, qz)] [(4, zl.toArray), (8, (fv b).cells), (9, (fv xx).cells), (10, (fv yy).cells), (11, (fv zz).cells), (12, (fv xy).cells), (13, (fv yz).cells), (14, (fv ((X1 * Z2) + (X2 * Z1))).cells)] qhs qhl (tail _ qle)
theorem plR4 (tail : ∀ G9, G.le G9 → ∀ s l, Q' .normal (S (SL.sets s [(4, qz), (5, qfn 51), (6, qfn 55), (7, qfn 48), (8, qz), (9, qz), (10, qz), (11, qz), (12, qz), (13, qz), (14, qz), (15, qz)]) (AL.sets l [(4, zl.toArray), (8, (fv b).cells), (9, (fv xx).cells), (10, (fv yy).cells), (11, (fv zz).cells), (12, (fv xy).cells), (13, (fv yz).cells), (14, (fv xz).cells), (15, (fv ((xz - (b * zz)) + (xz - (b * zz)) + (xz - (b * zz)))).cells)]) G9)) (s : Nat → Value) (l : Nat → Array Value) : vc Try.prog E35 (.draw L35_4 p35_4_0) Q' (S (SL.sets s [(4, qz), (5, qfn 51), (6, qfn 55), (7, qfn 48), (8, qz), (9, qz), (10, qz), (11, qz), (12, qz), (13, qz), (14, qz)]) (AL.sets l [(4, zl.toArray), (8, (fv b).cells), (9, (fv xx).cells), (10, (fv yy).cells), (11, (fv zz).cells), (12, (fv xy).cells), (13, (fv yz).cells), (14, (fv xz).cells)]) G) := by
  dsimp only [SL.sets, AL.sets]
  (repeat' (first | (with_reducible refine i_ops ?_; first | (refine g_callv ?_; first | (refine s_cvT ?_; intro G' hle) | refine s_cvM ?_) | (refine g_mv ?_; refine s_mv ?_) | refine o_nil ?_ | (refine g_lload ?_; refine s_lloadF ?_) | (refine g_lstore ?_; refine s_lstoreF ?_) | (refine g_lalloc ?_; refine s_lalloc ?_) | refine o_callp qrf (by exact threeF _ _) ?_) | (with_reducible refine i_vc ?_; refine v_draw0 ?_) | (with_reducible refine i_plan ?_; first | refine p_done ?_ | refine s_pre ?_ | refine p_callp qrf (by exact threeF _ _) qle ?_ p_no | refine s_alt ?_ | refine p_alt ?_ ?_) | (with_reducible (refine g_stand ?_; first | refine s_stand ?_ | refine s_standL ?_))))
  all_goals exact k_trim [(4, qz), (5, qfn 51), (6, qfn 55), (7, qfn 48), (8, qz), (9, qz), (10, qz), (11, qz), (12, qz), (13, qz), (14, qz), (15, qz)] [(4, zl.toArray), (8, (fv b).cells), (9, (fv xx).cells), (10, (fv yy).cells), (11, (fv zz).cells), (12, (fv xy).cells), (13, (fv yz).cells), (14, (fv xz).cells), (15, (fv ((xz - (b * zz)) + (xz - (b * zz)) + (xz - (b * zz)))).cells)] qhs qhl (tail _ qle)
theorem plR5 (tail : ∀ G9, G.le G9 → ∀ s l, Q' .normal (S (SL.sets s [(4, qz), (5, qfn 51), (6, qfn 55), (7, qfn 48), (8, qz), (9, qz), (10, qz), (11, qz), (12, qz), (13, qz), (14, qz), (15, qz), (16, qz)]) (AL.sets l [(4, zl.toArray), (8, (fv b).cells), (9, (fv xx).cells), (10, (fv yy).cells), (11, (fv zz).cells), (12, (fv xy).cells), (13, (fv yz).cells), (14, (fv xz).cells), (15, (fv u).cells), (16, (fv ((((b * xz) - (zz + zz + zz)) - xx) + (((b * xz) - (zz + zz + zz)) - xx) + (((b * xz) - (zz + zz + zz)) - xx))).cells)]) G9)) (s : Nat → Value) (l : Nat → Array Value) : vc Try.prog E35 (.draw L35_5 p35_5_0) Q' (S (SL.sets s [(4, qz), (5, qfn 51), (6, qfn 55), (7, qfn 48), (8, qz), (9, qz), (10, qz), (11, qz), (12, qz), (13, qz), (14, qz), (15, qz)]) (AL.sets l [(4, zl.toArray), (8, (fv b).cells), (9, (fv xx).cells), (10, (fv yy).cells), (11, (fv zz).cells), (12, (fv xy).cells), (13, (fv yz).cells), (14, (fv xz).cells), (15, (fv u).cells)]) G) := by
  dsimp only [SL.sets, AL.sets]
  (repeat' (first | (with_reducible refine i_ops ?_; first | (refine g_callv ?_; first | (refine s_cvT ?_; intro G' hle) | refine s_cvM ?_) | (refine g_mv ?_; refine s_mv ?_) | refine o_nil ?_ | (refine g_lload ?_; refine s_lloadF ?_) | (refine g_lstore ?_; refine s_lstoreF ?_) | (refine g_lalloc ?_; refine s_lalloc ?_) | refine o_callp qrf (by exact threeF _ _) ?_) | (with_reducible refine i_vc ?_; refine v_draw0 ?_) | (with_reducible refine i_plan ?_; first | refine p_done ?_ | refine s_pre ?_ | refine p_callp qrf (by exact threeF _ _) qle ?_ p_no | refine s_alt ?_ | refine p_alt ?_ ?_) | (with_reducible (refine g_stand ?_; first | refine s_stand ?_ | refine s_standL ?_))))
  all_goals exact k_trim [(4, qz), (5, qfn 51), (6, qfn 55), (7, qfn 48), (8, qz), (9, qz), (10, qz), (11, qz), (12, qz), (13, qz), (14, qz), (15, qz), (16, qz)] [(4, zl.toArray), (8, (fv b).cells), (9, (fv xx).cells), (10, (fv yy).cells), (11, (fv zz).cells), (12, (fv xy).cells), (13, (fv yz).cells), (14, (fv xz).cells), (15, (fv u).cells), (16, (fv ((((b * xz) - (zz + zz + zz)) - xx) + (((b * xz) - (zz + zz + zz)) - xx) + (((b * xz) - (zz + zz + zz)) - xx))).cells)] qhs qhl (tail _ qle)
theorem plR6 (tail : ∀ G9, G.le G9 → ∀ s l, Q' .normal (S (SL.sets s [(4, qz), (5, qfn 51), (6, qfn 55), (7, qfn 48), (8, qz), (9, qz), (10, qz), (11, qz), (12, qz), (13, qz), (14, qz), (15, qz), (16, qz), (17, qz), (18, qz), (19, qz)]) (AL.sets l [(4, zl.toArray), (8, (fv b).cells), (9, (fv xx).cells), (10, (fv yy).cells), (11, (fv zz).cells), (12, (fv xy).cells), (13, (fv yz).cells), (14, (fv xz).cells), (15, (fv u).cells), (16, (fv v).cells), (17, (fv w).cells), (18, (fv (yy + u)).cells), (19, (fv (yy - u)).cells)]) G9)) (s : Nat → Value) (l : Nat → Array Value) : vc Try.prog E35 (.draw L35_6 p35_6_0) Q' (S (SL.sets s [(4, qz), (5, qfn 51), (6, qfn 55), (7, qfn 48), (8, qz), (9, qz), (10, qz), (11, qz), (12, qz), (13, qz), (14, qz), (15, qz), (16, qz), (17, qz)]) (AL.sets l [(4, zl.toArray), (8, (fv b).cells), (9, (fv xx).cells), (10, (fv yy).cells), (11, (fv zz).cells), (12, (fv xy).cells), (13, (fv yz).cells), (14, (fv xz).cells), (15, (fv u).cells), (16, (fv v).cells), (17, (fv w).cells)]) G) := by
  dsimp only [SL.sets, AL.sets]
  (repeat' (first | (with_reducible refine i_ops ?_; first | (refine g_callv ?_; first | refine s_cvP ?_ | refine s_cvM ?_) | (refine g_mv ?_; refine s_mv ?_) | refine o_nil ?_ | (refine g_lload ?_; refine s_lloadF ?_) | (refine g_lstore ?_; refine s_lstoreF ?_) | (refine g_lalloc ?_; refine s_lalloc ?_)) | (with_reducible refine i_vc ?_; refine v_draw0 ?_) | (with_reducible refine i_plan ?_; first | refine p_done ?_ | refine s_pre ?_ | refine s_alt ?_ | refine p_alt ?_ ?_) | (with_reducible (refine g_stand ?_; first | refine s_stand ?_ | refine s_standL ?_))))
  all_goals exact k_trim [(4, qz), (5, qfn 51), (6, qfn 55), (7, qfn 48), (8, qz), (9, qz), (10, qz), (11, qz), (12, qz), (13, qz), (14, qz), (15, qz), (16, qz), (17, qz), (18, qz), (19, qz)] [(4, zl.toArray), (8, (fv b).cells), (9, (fv xx).cells), (10, (fv yy).cells), (11, (fv zz).cells), (12, (fv xy).cells), (13, (fv yz).cells), (14, (fv xz).cells), (15, (fv u).cells), (16, (fv v).cells), (17, (fv w).cells), (18, (fv (yy + u)).cells), (19, (fv (yy - u)).cells)] qhs qhl (tail _ qle)
end
end Go.Proofs.Ytdeihgcgglhhcaa.V
end
