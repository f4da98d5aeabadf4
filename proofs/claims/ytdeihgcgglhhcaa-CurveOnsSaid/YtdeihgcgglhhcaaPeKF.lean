/- What gives 1 with a number of the field. -/
import Derived.Test.YtdeihgcgglhhcaaPeKE
set_option linter.unusedSimpArgs false
set_option linter.unusedVariables false
set_option maxRecDepth 20000
-- @nums
-- @extra s_naddc s_nsubL s_nquoc s_nremc s_wshr s_wandc s_wsubc
-- @pre g_lload s_lloadF s_lloadV s_lloadW
-- @pre g_lstore s_lstoreF s_lstoreV s_lstoreW
-- @pre g_lbox s_lboxF s_lboxW
namespace Go.Proofs.Ytdeihgcgglhhcaa.V
open Go.RowKit Go.ChangeShapes Go.WideShapes
theorem inv_half (i : Nat) (h : i < 256) : inv256 / 2 ^ (255 - i) / 2 = inv256 / 2 ^ (256 - i) := by
  rw [Nat.div_div_eq_div_mul, ← Nat.pow_succ, show (255 - i).succ = 256 - i by omega]
theorem invertF (x : Fp) (G : GH) : HC Try.prog 57 #[fv x] G fun v G' => v = fv (finv x) ∧ G.le G' := by
  refine HC.start comp57 rfl ?_; unfold pc57
  (repeat' (first | (with_reducible refine i_ops ?_; first | (refine g_mv ?_; refine s_mv ?_) | refine o_nil ?_ | (refine g_build ?_; first | refine s_build ?_ | refine s_buildP ?_) | (refine g_pure ?_; first | refine s_naddc ?_ | refine s_nsubL ?_ | refine s_nquoc ?_ | refine s_nremc ?_ | refine s_wshr ?_ | refine s_wandc ?_ | refine s_wsubc ?_ | refine s_pure ?_ | refine s_saddB ?_) | (refine g_lload ?_; first | refine s_lloadF ?_ | refine s_lloadV ?_ | refine s_lloadW ?_ | refine s_lload ?_) | (refine g_lstore ?_; first | refine s_lstoreF ?_ | refine s_lstoreV ?_ | refine s_lstoreW ?_ | refine s_lstoreA ?_ | refine s_lstore ?_) | (refine g_lindex ?_; refine s_lindex ?_) | (refine g_lalloc ?_; refine s_lalloc ?_) | (refine g_lbox ?_; first | refine s_lboxF ?_ | refine s_lboxW ?_ | refine s_lbox ?_) | refine o_callp (by with_unfolding_all rfl) (by first | exact modulusK _ | exact squareK _ | exact timesSq1 _) ?_ | (refine o_callg (by with_unfolding_all rfl) (by first | exact modulusK _ | exact squareK _ | exact timesSq1 _) ?_; intro G' hle)) | (with_reducible refine i_vc ?_; first | refine v_seq ?_ | refine v_ops ?_ | (refine g_cond ?_; first | refine s_cond_t ?_ | refine s_cond_f ?_) | refine v_block ?_ | refine v_skip ?_ | refine v_exit ?_ | refine v_ret ?_) | (with_reducible first | refine n_then ?_ | refine r_then ?_ | refine e_then ?_ | refine n_block ?_ | refine r_block ?_ | refine e_block_eq (by with_unfolding_all rfl) ?_ | refine e_block_ne (by with_unfolding_all rfl) ?_) | ((with_reducible first | refine s_cond_c ?_ ?_) <;> intro hb <;> rw [hb] <;> (try simp only [decide_eq_true_eq, decide_eq_false_iff_not, beq_iff_eq, bne_iff_ne, beq_eq_false_iff_ne, bne_eq_false_iff_eq, ne_eq, Int.not_lt, Int.not_le, gt_iff_lt, ge_iff_le, Bool.not_eq_true', Bool.not_eq_false'] at hb)) | ((with_reducible first | refine s_ret ?_ | refine s_normal ?_); try simp only [x_tup0, x_tup1, x_tup2, x_tup3, x_tup4, x_tup5, and_true, true_and])))
  have l1 := fd_len 18446744073709551616 4 p256
  refine s_lloadV (i := 0) ?_
  (repeat' (first | (with_reducible refine i_ops ?_; first | (refine g_mv ?_; refine s_mv ?_) | refine o_nil ?_ | (refine g_build ?_; first | refine s_build ?_ | refine s_buildP ?_) | (refine g_pure ?_; first | refine s_naddc ?_ | refine s_nsubL ?_ | refine s_nquoc ?_ | refine s_nremc ?_ | refine s_wshr ?_ | refine s_wandc ?_ | refine s_wsubc ?_ | refine s_pure ?_ | refine s_saddB ?_) | (refine g_lload ?_; first | refine s_lloadF ?_ | refine s_lloadV ?_ | refine s_lloadW ?_ | refine s_lload ?_) | (refine g_lstore ?_; first | refine s_lstoreF ?_ | refine s_lstoreV ?_ | refine s_lstoreW ?_ | refine s_lstoreA ?_ | refine s_lstore ?_) | (refine g_lindex ?_; refine s_lindex ?_) | (refine g_lalloc ?_; refine s_lalloc ?_) | (refine g_lbox ?_; first | refine s_lboxF ?_ | refine s_lboxW ?_ | refine s_lbox ?_) | refine o_callp (by with_unfolding_all rfl) (by first | exact modulusK _ | exact squareK _ | exact timesSq1 _) ?_ | (refine o_callg (by with_unfolding_all rfl) (by first | exact modulusK _ | exact squareK _ | exact timesSq1 _) ?_; intro G' hle)) | (with_reducible refine i_vc ?_; first | refine v_seq ?_ | refine v_ops ?_ | (refine g_cond ?_; first | refine s_cond_t ?_ | refine s_cond_f ?_) | refine v_block ?_ | refine v_skip ?_ | refine v_exit ?_ | refine v_ret ?_) | (with_reducible first | refine n_then ?_ | refine r_then ?_ | refine e_then ?_ | refine n_block ?_ | refine r_block ?_ | refine e_block_eq (by with_unfolding_all rfl) ?_ | refine e_block_ne (by with_unfolding_all rfl) ?_) | ((with_reducible first | refine s_cond_c ?_ ?_) <;> intro hb <;> rw [hb] <;> (try simp only [decide_eq_true_eq, decide_eq_false_iff_not, beq_iff_eq, bne_iff_ne, beq_eq_false_iff_ne, bne_eq_false_iff_eq, ne_eq, Int.not_lt, Int.not_le, gt_iff_lt, ge_iff_le, Bool.not_eq_true', Bool.not_eq_false'] at hb)) | ((with_reducible first | refine s_ret ?_ | refine s_normal ?_); try simp only [x_tup0, x_tup1, x_tup2, x_tup3, x_tup4, x_tup5, and_true, true_and])))
  refine v_loopX (α := Nat × GH) (fun y => y.1 ≤ 256 ∧ G.le y.2)
    (fun y => [(1, .int .u64 0), (2, .int .u64 0), (3, .int .u64 0), (4, .int .u64 0), (14, iv .i64 y.1)]) (fun y => [(1, (fv x).cells), (2, na [0, 0, 0, 0]), (3, na (fd 18446744073709551616 4 inv256)), (4, (fv (fpow x (inv256 / 2 ^ (256 - y.1)))).cells)]) (fun y => y.2) (fun y => 256 - y.1) (0, _)
    ⟨Nat.zero_le _, by assumption⟩ (by refine ⟨SL.get_fn (by with_unfolding_all rfl), SL.get_fn (by with_unfolding_all rfl), SL.get_fn (by with_unfolding_all rfl), SL.get_fn (by with_unfolding_all rfl), SL.get_fn (by with_unfolding_all rfl), trivial⟩) ⟨AL.get_fn (by with_unfolding_all rfl), AL.get_fn (by with_unfolding_all rfl), AL.get_fn (by with_unfolding_all rfl), ?_, trivial⟩ rfl ?_
  · refine AL.get_fn ?_
    show _ = some (fv (fpow x (inv256 / 2 ^ 256))).cells
    rw [show inv256 / 2 ^ 256 = 0 by decide, fpow_zero]
    rfl
  rintro ⟨i, H⟩ s ll ⟨k1, k2⟩
  dsimp only at k1 k2
  dsimp only [SL.sets, AL.sets]
  have l1 := fd_len 18446744073709551616 4 inv256
  have g := fd_lt (B := 18446744073709551616) (by decide) 4 inv256 ((255 - i) / 64)
  (repeat' (first | (with_reducible refine i_ops ?_; first | (refine g_mv ?_; refine s_mv ?_) | refine o_nil ?_ | (refine g_build ?_; first | refine s_build ?_ | refine s_buildP ?_) | (refine g_pure ?_; first | refine s_naddc ?_ | refine s_nsubL ?_ | refine s_nquoc ?_ | refine s_nremc ?_ | refine s_wshr ?_ | refine s_wandc ?_ | refine s_wsubc ?_ | refine s_pure ?_ | refine s_saddB ?_) | (refine g_lload ?_; first | refine s_lloadF ?_ | refine s_lloadV ?_ | refine s_lloadW ?_ | refine s_lload ?_) | (refine g_lstore ?_; first | refine s_lstoreF ?_ | refine s_lstoreV ?_ | refine s_lstoreW ?_ | refine s_lstoreA ?_ | refine s_lstore ?_) | (refine g_lindex ?_; refine s_lindex ?_) | (refine g_lalloc ?_; refine s_lalloc ?_) | (refine g_lbox ?_; first | refine s_lboxF ?_ | refine s_lboxW ?_ | refine s_lbox ?_) | refine o_callp (by with_unfolding_all rfl) (by first | exact timesF _ _ _) ?_ | (refine o_callg (by with_unfolding_all rfl) (by first | exact timesF _ _ _) ?_; intro G' hle)) | (with_reducible refine i_vc ?_; first | refine v_seq ?_ | refine v_ops ?_ | (refine g_cond ?_; first | refine s_cond_t ?_ | refine s_cond_f ?_) | refine v_block ?_ | refine v_skip ?_ | refine v_exit ?_ | refine v_ret ?_) | (with_reducible first | refine n_then ?_ | refine r_then ?_ | refine e_then ?_ | refine n_block ?_ | refine r_block ?_ | refine e_block_eq (by with_unfolding_all rfl) ?_ | refine e_block_ne (by with_unfolding_all rfl) ?_) | ((with_reducible first | refine s_cond_c ?_ ?_) <;> intro hb <;> rw [hb] <;> (try simp only [decide_eq_true_eq, decide_eq_false_iff_not, beq_iff_eq, bne_iff_ne, beq_eq_false_iff_ne, bne_eq_false_iff_eq, ne_eq, Int.not_lt, Int.not_le, gt_iff_lt, ge_iff_le, Bool.not_eq_true', Bool.not_eq_false'] at hb)) | ((with_reducible first | refine s_ret ?_ | refine s_normal ?_); try simp only [x_tup0, x_tup1, x_tup2, x_tup3, x_tup4, x_tup5, and_true, true_and])))
  · have hbit := bitK inv256 (255 - i) (by omega)
    have hst := fpow_step x (inv256 / 2 ^ (255 - i)) (inv256 / 2 ^ (256 - i)) (inv_half i (by omega))
    rw [if_pos (by omega)] at hst
    refine ⟨256 - (i + 1), by omega, (i + 1, _), rfl, ⟨by dsimp only; omega, by dsimp only; exact (by first | assumption | exact GH.le_refl _ | ((repeat (first | exact GH.le_refl _ | assumption | refine GH.le_trans ?_ (by assumption))); first | done | fail))⟩, (by refine ⟨SL.get_fn (by with_unfolding_all rfl), SL.get_fn (by with_unfolding_all rfl), SL.get_fn (by with_unfolding_all rfl), SL.get_fn (by with_unfolding_all rfl), SL.get_fn (by with_unfolding_all rfl), trivial⟩), ⟨AL.get_fn (by with_unfolding_all rfl), AL.get_fn (by with_unfolding_all rfl), AL.get_fn (by with_unfolding_all rfl), ?_, trivial⟩, rfl⟩
    dsimp only
    rw [show 256 - (i + 1) = 255 - i by omega, hst]
    exact AL.get_fn (by with_unfolding_all rfl)
  · have hbit := bitK inv256 (255 - i) (by omega)
    have hst := fpow_step x (inv256 / 2 ^ (255 - i)) (inv256 / 2 ^ (256 - i)) (inv_half i (by omega))
    rw [if_neg (by omega)] at hst
    refine ⟨256 - (i + 1), by omega, (i + 1, _), rfl, ⟨by dsimp only; omega, by dsimp only; exact (by first | assumption | exact GH.le_refl _ | ((repeat (first | exact GH.le_refl _ | assumption | refine GH.le_trans ?_ (by assumption))); first | done | fail))⟩, (by refine ⟨SL.get_fn (by with_unfolding_all rfl), SL.get_fn (by with_unfolding_all rfl), SL.get_fn (by with_unfolding_all rfl), SL.get_fn (by with_unfolding_all rfl), SL.get_fn (by with_unfolding_all rfl), trivial⟩), ⟨AL.get_fn (by with_unfolding_all rfl), AL.get_fn (by with_unfolding_all rfl), AL.get_fn (by with_unfolding_all rfl), ?_, trivial⟩, rfl⟩
    dsimp only
    rw [show 256 - (i + 1) = 255 - i by omega, hst]
    exact AL.get_fn (by with_unfolding_all rfl)
  · have hi : i = 256 := by omega
    subst hi
    rw [fv_ext]
    refine ⟨?_, k2⟩
    unfold finv
    rw [Nat.sub_self, Nat.pow_zero, Nat.div_one]
end Go.Proofs.Ytdeihgcgglhhcaa.V
