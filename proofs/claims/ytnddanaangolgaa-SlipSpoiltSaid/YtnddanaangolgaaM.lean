/- A slip that is right; a sum that is known; the spoilt slip, plain. -/
import Derived.Test.YtnddanaangolgaaL
set_option linter.unusedSimpArgs false
set_option linter.unusedVariables false
namespace Go.Proofs.Ytnddanaangolgaa.V
open Go.RowKit Go.ChangeShapes Go.WideShapes
theorem sum_abc : sumB [97, 98, 99] = 891568578#32 := by decide +kernel
theorem sum_nil : sumB [] = 0#32 := by decide +kernel
theorem works11 (G : GH) : HC Try.prog 11 #[] G fun v G' => v = .bool true ∧ G.le G' := by
  refine HC.start comp11 rfl ?_; unfold pc11
  (repeat' (first | (with_reducible refine i_ops ?_; first | (refine g_mv ?_; refine s_mv ?_) | refine o_nil ?_ | (refine g_some ?_; first | refine s_g_t ?_ | refine s_g_f ?_ | refine s_g_f' ?_ | refine s_g_u ?_) | (refine g_pick ?_; first | refine s_pick_t ?_ | refine s_pick_f ?_) | (refine g_len ?_; first | refine s_lenB ?_ | refine s_pure ?_) | (refine g_idx ?_; first | (refine s_idxOB ?_; intro p hp hpw) | (refine s_idxB ?_; intro p hp)) | (refine g_slc ?_; ((first | refine s_slcB ?_ | refine s_slcB01 ?_ | refine s_slcB10 ?_); intro us hus hbs)) | (refine g_build ?_; first | refine s_build ?_ | refine s_buildP ?_) | (refine g_pure ?_; first | refine s_pure ?_ | refine s_saddB ?_) | (refine g_lfield ?_; refine s_lfield ?_) | (refine g_lload ?_; refine s_lload ?_) | (refine g_lstore ?_; first | refine s_lstoreA ?_ | refine s_lstore ?_) | (refine g_lindex ?_; refine s_lindex ?_) | (refine g_lalloc ?_; refine s_lalloc ?_) | (refine g_lbox ?_; refine s_lbox ?_) | (refine g_lmove ?_; refine s_lmove ?_) | (refine g_hload ?_; refine s_hloadP ?_) | (refine g_hstore ?_; (refine s_hstoreB ?_; intro G' hle ho hkp)) | (refine g_b2s ?_; refine s_b2sB ?_)) | (with_reducible refine i_vc ?_; first | refine v_seq ?_ | refine v_ops ?_ | (refine g_cond ?_; first | refine s_cond_t ?_ | refine s_cond_f ?_) | refine v_block ?_ | refine v_skip ?_ | refine v_exit ?_ | refine v_ret ?_ | refine s_drawl ?_ | refine v_draw0 ?_ | refine v_scope ?_) | (with_reducible refine i_plan ?_; first | refine p_done ?_ | refine s_pre ?_ | refine s_preN ?_ | refine s_ag_t ?_ | refine s_ag_f ?_ | refine s_alt ?_ | refine p_alt ?_ ?_) | (with_reducible first | refine n_then ?_ | refine r_then ?_ | refine e_then ?_ | refine n_block ?_ | refine r_block ?_ | refine e_block_eq (by with_unfolding_all rfl) ?_ | refine e_block_ne (by with_unfolding_all rfl) ?_ | refine n_scope ?_ | refine r_scope ?_ | refine e_scope ?_ | (refine g_stand ?_; first | refine s_stand ?_ | refine s_standL ?_)) | ((with_reducible first | refine s_g_c ?_ ?_ | refine s_cond_c ?_ ?_ | refine s_tg_c ?_ ?_ | refine s_ag_c ?_ ?_) <;> intro hb <;> rw [hb] <;> (try simp only [decide_eq_true_eq, decide_eq_false_iff_not, beq_iff_eq, bne_iff_ne, beq_eq_false_iff_ne, bne_eq_false_iff_eq, ne_eq, Int.not_lt, Int.not_le, gt_iff_lt, ge_iff_le, Bool.not_eq_true', Bool.not_eq_false'] at hb)) | ((with_reducible first | refine s_ret ?_ | refine s_normal ?_); try simp only [x_tup0, x_tup1, x_tup2, x_tup3, x_tup4, x_tup5, and_true, true_and])))
  refine o_bslice (cs := #[bv 97, bv 98, bv 99]) (by with_unfolding_all rfl) rfl ?_
  intro b hb
  refine o_markb (by with_unfolding_all rfl) (GH.put_same _ _ _) ?_
  have hle : G.le ((G.put b (.cells #[bv 97, bv 98, bv 99] 5)).put b (.cells #[bv 97, bv 98, bv 99] 5 (3, 4))) := GH.le_put_of _ (GH.le_put _ hb) hb
  have hB : By ((G.put b (.cells #[bv 97, bv 98, bv 99] 5)).put b (.cells #[bv 97, bv 98, bv 99] 5 (3, 4))) (.slice (some ⟨b, 0, none⟩) 3 3) [97, 98, 99] := by
    refine ⟨?_, by simp [okS]⟩
    rw [rd_of (GH.put_same _ _ _) (by decide)]; rfl
  generalize (G.put b _).put b _ = G1 at *
  refine o_bsliceO (by with_unfolding_all rfl) rfl rfl rfl rfl rfl ?_
  intro u3 G3 hle3 ho3 hu3
  (repeat' (first | (with_reducible refine i_ops ?_; first | (refine g_mv ?_; refine s_mv ?_) | refine o_nil ?_ | (refine g_some ?_; first | refine s_g_t ?_ | refine s_g_f ?_ | refine s_g_f' ?_ | refine s_g_u ?_) | (refine g_pick ?_; first | refine s_pick_t ?_ | refine s_pick_f ?_) | (refine g_len ?_; first | refine s_lenB ?_ | refine s_pure ?_) | (refine g_idx ?_; first | (refine s_idxOB ?_; intro p hp hpw) | (refine s_idxB ?_; intro p hp)) | (refine g_slc ?_; ((first | refine s_slcB ?_ | refine s_slcB01 ?_ | refine s_slcB10 ?_); intro us hus hbs)) | (refine g_build ?_; first | refine s_build ?_ | refine s_buildP ?_) | (refine g_pure ?_; first | refine s_pure ?_ | refine s_saddB ?_) | (refine g_lfield ?_; refine s_lfield ?_) | (refine g_lload ?_; refine s_lload ?_) | (refine g_lstore ?_; first | refine s_lstoreA ?_ | refine s_lstore ?_) | (refine g_lindex ?_; refine s_lindex ?_) | (refine g_lalloc ?_; refine s_lalloc ?_) | (refine g_lbox ?_; refine s_lbox ?_) | (refine g_lmove ?_; refine s_lmove ?_) | (refine g_hload ?_; refine s_hloadP ?_) | (refine g_hstore ?_; (refine s_hstoreB ?_; intro G' hle ho hkp)) | (refine g_b2s ?_; refine s_b2sB ?_)) | (with_reducible refine i_vc ?_; first | refine v_seq ?_ | refine v_ops ?_ | (refine g_cond ?_; first | refine s_cond_t ?_ | refine s_cond_f ?_) | refine v_block ?_ | refine v_skip ?_ | refine v_exit ?_ | refine v_ret ?_ | refine s_drawl ?_ | refine v_draw0 ?_ | refine v_scope ?_) | (with_reducible refine i_plan ?_; first | refine p_done ?_ | refine s_pre ?_ | refine s_preN ?_ | refine s_ag_t ?_ | refine s_ag_f ?_ | refine s_alt ?_ | refine p_alt ?_ ?_) | (with_reducible first | refine n_then ?_ | refine r_then ?_ | refine e_then ?_ | refine n_block ?_ | refine r_block ?_ | refine e_block_eq (by with_unfolding_all rfl) ?_ | refine e_block_ne (by with_unfolding_all rfl) ?_ | refine n_scope ?_ | refine r_scope ?_ | refine e_scope ?_ | (refine g_stand ?_; first | refine s_stand ?_ | refine s_standL ?_)) | ((with_reducible first | refine s_g_c ?_ ?_ | refine s_cond_c ?_ ?_ | refine s_tg_c ?_ ?_ | refine s_ag_c ?_ ?_) <;> intro hb <;> rw [hb] <;> (try simp only [decide_eq_true_eq, decide_eq_false_iff_not, beq_iff_eq, bne_iff_ne, beq_eq_false_iff_ne, bne_eq_false_iff_eq, ne_eq, Int.not_lt, Int.not_le, gt_iff_lt, ge_iff_le, Bool.not_eq_true', Bool.not_eq_false'] at hb)) | ((with_reducible first | refine s_ret ?_ | refine s_normal ?_); try simp only [x_tup0, x_tup1, x_tup2, x_tup3, x_tup4, x_tup5, and_true, true_and])))
  refine o_callp (by with_unfolding_all rfl) (sum10 u3 _ [[97, 98, 99]] G3 (one_part ho3.sl (hB.le hle3))) ?_
  have e1 : sumB [[97, 98, 99]].flatten = 891568578#32 := sum_abc
  rw [e1]
  (repeat' (first | (with_reducible refine i_ops ?_; first | (refine g_mv ?_; refine s_mv ?_) | refine o_nil ?_ | (refine g_some ?_; first | refine s_g_t ?_ | refine s_g_f ?_ | refine s_g_f' ?_ | refine s_g_u ?_) | (refine g_pick ?_; first | refine s_pick_t ?_ | refine s_pick_f ?_) | (refine g_len ?_; first | refine s_lenB ?_ | refine s_pure ?_) | (refine g_idx ?_; first | (refine s_idxOB ?_; intro p hp hpw) | (refine s_idxB ?_; intro p hp)) | (refine g_slc ?_; ((first | refine s_slcB ?_ | refine s_slcB01 ?_ | refine s_slcB10 ?_); intro us hus hbs)) | (refine g_build ?_; first | refine s_build ?_ | refine s_buildP ?_) | (refine g_pure ?_; first | refine s_pure ?_ | refine s_saddB ?_) | (refine g_lfield ?_; refine s_lfield ?_) | (refine g_lload ?_; refine s_lload ?_) | (refine g_lstore ?_; first | refine s_lstoreA ?_ | refine s_lstore ?_) | (refine g_lindex ?_; refine s_lindex ?_) | (refine g_lalloc ?_; refine s_lalloc ?_) | (refine g_lbox ?_; refine s_lbox ?_) | (refine g_lmove ?_; refine s_lmove ?_) | (refine g_hload ?_; refine s_hloadP ?_) | (refine g_hstore ?_; (refine s_hstoreB ?_; intro G' hle ho hkp)) | (refine g_b2s ?_; refine s_b2sB ?_)) | (with_reducible refine i_vc ?_; first | refine v_seq ?_ | refine v_ops ?_ | (refine g_cond ?_; first | refine s_cond_t ?_ | refine s_cond_f ?_) | refine v_block ?_ | refine v_skip ?_ | refine v_exit ?_ | refine v_ret ?_ | refine s_drawl ?_ | refine v_draw0 ?_ | refine v_scope ?_) | (with_reducible refine i_plan ?_; first | refine p_done ?_ | refine s_pre ?_ | refine s_preN ?_ | refine s_ag_t ?_ | refine s_ag_f ?_ | refine s_alt ?_ | refine p_alt ?_ ?_) | (with_reducible first | refine n_then ?_ | refine r_then ?_ | refine e_then ?_ | refine n_block ?_ | refine r_block ?_ | refine e_block_eq (by with_unfolding_all rfl) ?_ | refine e_block_ne (by with_unfolding_all rfl) ?_ | refine n_scope ?_ | refine r_scope ?_ | refine e_scope ?_ | (refine g_stand ?_; first | refine s_stand ?_ | refine s_standL ?_)) | ((with_reducible first | refine s_g_c ?_ ?_ | refine s_cond_c ?_ ?_ | refine s_tg_c ?_ ?_ | refine s_ag_c ?_ ?_) <;> intro hb <;> rw [hb] <;> (try simp only [decide_eq_true_eq, decide_eq_false_iff_not, beq_iff_eq, bne_iff_ne, beq_eq_false_iff_ne, bne_eq_false_iff_eq, ne_eq, Int.not_lt, Int.not_le, gt_iff_lt, ge_iff_le, Bool.not_eq_true', Bool.not_eq_false'] at hb)) | ((with_reducible first | refine s_ret ?_ | refine s_normal ?_); try simp only [x_tup0, x_tup1, x_tup2, x_tup3, x_tup4, x_tup5, and_true, true_and])))
  have hn : Parts G3 (.slice none 0 0) [] [] := ⟨Sl.nil 1 _, rfl, fun i hi => by simp at hi⟩
  refine o_callp (by with_unfolding_all rfl) (sum10 (.slice none 0 0) [] [] G3 hn) ?_
  have e2 : sumB ([] : List (List UInt8)).flatten = 0#32 := sum_nil
  rw [e2]
  (repeat' (first | (with_reducible refine i_ops ?_; first | (refine g_mv ?_; refine s_mv ?_) | refine o_nil ?_ | (refine g_some ?_; first | refine s_g_t ?_ | refine s_g_f ?_ | refine s_g_f' ?_ | refine s_g_u ?_) | (refine g_pick ?_; first | refine s_pick_t ?_ | refine s_pick_f ?_) | (refine g_len ?_; first | refine s_lenB ?_ | refine s_pure ?_) | (refine g_idx ?_; first | (refine s_idxOB ?_; intro p hp hpw) | (refine s_idxB ?_; intro p hp)) | (refine g_slc ?_; ((first | refine s_slcB ?_ | refine s_slcB01 ?_ | refine s_slcB10 ?_); intro us hus hbs)) | (refine g_build ?_; first | refine s_build ?_ | refine s_buildP ?_) | (refine g_pure ?_; first | refine s_pure ?_ | refine s_saddB ?_) | (refine g_lfield ?_; refine s_lfield ?_) | (refine g_lload ?_; refine s_lload ?_) | (refine g_lstore ?_; first | refine s_lstoreA ?_ | refine s_lstore ?_) | (refine g_lindex ?_; refine s_lindex ?_) | (refine g_lalloc ?_; refine s_lalloc ?_) | (refine g_lbox ?_; refine s_lbox ?_) | (refine g_lmove ?_; refine s_lmove ?_) | (refine g_hload ?_; refine s_hloadP ?_) | (refine g_hstore ?_; (refine s_hstoreB ?_; intro G' hle ho hkp)) | (refine g_b2s ?_; refine s_b2sB ?_)) | (with_reducible refine i_vc ?_; first | refine v_seq ?_ | refine v_ops ?_ | (refine g_cond ?_; first | refine s_cond_t ?_ | refine s_cond_f ?_) | refine v_block ?_ | refine v_skip ?_ | refine v_exit ?_ | refine v_ret ?_ | refine s_drawl ?_ | refine v_draw0 ?_ | refine v_scope ?_) | (with_reducible refine i_plan ?_; first | refine p_done ?_ | refine s_pre ?_ | refine s_preN ?_ | refine s_ag_t ?_ | refine s_ag_f ?_ | refine s_alt ?_ | refine p_alt ?_ ?_) | (with_reducible first | refine n_then ?_ | refine r_then ?_ | refine e_then ?_ | refine n_block ?_ | refine r_block ?_ | refine e_block_eq (by with_unfolding_all rfl) ?_ | refine e_block_ne (by with_unfolding_all rfl) ?_ | refine n_scope ?_ | refine r_scope ?_ | refine e_scope ?_ | (refine g_stand ?_; first | refine s_stand ?_ | refine s_standL ?_)) | ((with_reducible first | refine s_g_c ?_ ?_ | refine s_cond_c ?_ ?_ | refine s_tg_c ?_ ?_ | refine s_ag_c ?_ ?_) <;> intro hb <;> rw [hb] <;> (try simp only [decide_eq_true_eq, decide_eq_false_iff_not, beq_iff_eq, bne_iff_ne, beq_eq_false_iff_ne, bne_eq_false_iff_eq, ne_eq, Int.not_lt, Int.not_le, gt_iff_lt, ge_iff_le, Bool.not_eq_true', Bool.not_eq_false'] at hb)) | ((with_reducible first | refine s_ret ?_ | refine s_normal ?_); try simp only [x_tup0, x_tup1, x_tup2, x_tup3, x_tup4, x_tup5, and_true, true_and])))
  · exact ⟨rfl, GH.le_trans hle hle3⟩
  · exact absurd rfl hb
theorem right26 (k : Int) (w : Value) (d : List UInt8) (G : GH) (hw : By G w d) (h0 : -9223372036854775808 ≤ k) (h1 : k ≤ 9223372036854775807) : HC Try.prog 26 #[.agg #[.int .i64 k, w]] G fun v G' => G = G' ∧ ∃ k' w', v = .agg #[.int .i64 k', w'] ∧ 0 ≤ k' ∧ k' ≤ 255 ∧ By G w' (d.take 65535) := by
  obtain ⟨a, n, c, rfl⟩ := Sl.shape hw
  obtain rfl : n = d.length := By.len hw
  refine HC.start comp26 rfl ?_; unfold pc26
  (repeat' (first | (with_reducible refine i_ops ?_; first | (refine g_mv ?_; refine s_mv ?_) | refine o_nil ?_ | (refine g_some ?_; first | refine s_g_t ?_ | refine s_g_f ?_ | refine s_g_f' ?_ | refine s_g_u ?_) | (refine g_pick ?_; first | refine s_pick_t ?_ | refine s_pick_f ?_) | (refine g_len ?_; first | refine s_lenB ?_ | refine s_pure ?_) | (refine g_idx ?_; first | (refine s_idxOB ?_; intro p hp hpw) | (refine s_idxB ?_; intro p hp)) | (refine g_slc ?_; ((first | refine s_slcB ?_ | refine s_slcB01 ?_ | refine s_slcB10 ?_); intro us hus hbs)) | (refine g_build ?_; first | refine s_build ?_ | refine s_buildP ?_) | (refine g_pure ?_; first | refine s_pure ?_ | refine s_saddB ?_) | (refine g_lfield ?_; refine s_lfield ?_) | (refine g_lload ?_; refine s_lload ?_) | (refine g_lstore ?_; first | refine s_lstoreA ?_ | refine s_lstore ?_) | (refine g_lindex ?_; refine s_lindex ?_) | (refine g_lalloc ?_; refine s_lalloc ?_) | (refine g_lbox ?_; refine s_lbox ?_) | (refine g_lmove ?_; refine s_lmove ?_) | (refine g_hload ?_; refine s_hloadP ?_) | (refine g_hstore ?_; (refine s_hstoreB ?_; intro G' hle ho hkp)) | (refine g_b2s ?_; refine s_b2sB ?_)) | (with_reducible refine i_vc ?_; first | refine v_seq ?_ | refine v_ops ?_ | (refine g_cond ?_; first | refine s_cond_t ?_ | refine s_cond_f ?_) | refine v_block ?_ | refine v_skip ?_ | refine v_exit ?_ | refine v_ret ?_ | refine s_drawl ?_ | refine v_draw0 ?_ | refine v_scope ?_) | (with_reducible refine i_plan ?_; first | refine p_done ?_ | refine s_pre ?_ | refine s_preN ?_ | refine s_ag_t ?_ | refine s_ag_f ?_ | refine s_alt ?_ | refine p_alt ?_ ?_) | (with_reducible first | refine n_then ?_ | refine r_then ?_ | refine e_then ?_ | refine n_block ?_ | refine r_block ?_ | refine e_block_eq (by with_unfolding_all rfl) ?_ | refine e_block_ne (by with_unfolding_all rfl) ?_ | refine n_scope ?_ | refine r_scope ?_ | refine e_scope ?_ | (refine g_stand ?_; first | refine s_stand ?_ | refine s_standL ?_)) | ((with_reducible first | refine s_g_c ?_ ?_ | refine s_cond_c ?_ ?_ | refine s_tg_c ?_ ?_ | refine s_ag_c ?_ ?_) <;> intro hb <;> rw [hb] <;> (try simp only [decide_eq_true_eq, decide_eq_false_iff_not, beq_iff_eq, bne_iff_ne, beq_eq_false_iff_ne, bne_eq_false_iff_eq, ne_eq, Int.not_lt, Int.not_le, gt_iff_lt, ge_iff_le, Bool.not_eq_true', Bool.not_eq_false'] at hb)) | ((with_reducible first | refine s_ret ?_ | refine s_normal ?_); try simp only [x_tup0, x_tup1, x_tup2, x_tup3, x_tup4, x_tup5, and_true, true_and])))
  obtain ⟨a2, n2, c2, rfl⟩ := Sl.shape hus
  (repeat' (first | (with_reducible refine i_ops ?_; first | (refine g_mv ?_; refine s_mv ?_) | refine o_nil ?_ | (refine g_some ?_; first | refine s_g_t ?_ | refine s_g_f ?_ | refine s_g_f' ?_ | refine s_g_u ?_) | (refine g_pick ?_; first | refine s_pick_t ?_ | refine s_pick_f ?_) | (refine g_len ?_; first | refine s_lenB ?_ | refine s_pure ?_) | (refine g_idx ?_; first | (refine s_idxOB ?_; intro p hp hpw) | (refine s_idxB ?_; intro p hp)) | (refine g_slc ?_; ((first | refine s_slcB ?_ | refine s_slcB01 ?_ | refine s_slcB10 ?_); intro us hus hbs)) | (refine g_build ?_; first | refine s_build ?_ | refine s_buildP ?_) | (refine g_pure ?_; first | refine s_pure ?_ | refine s_saddB ?_) | (refine g_lfield ?_; refine s_lfield ?_) | (refine g_lload ?_; refine s_lload ?_) | (refine g_lstore ?_; first | refine s_lstoreA ?_ | refine s_lstore ?_) | (refine g_lindex ?_; refine s_lindex ?_) | (refine g_lalloc ?_; refine s_lalloc ?_) | (refine g_lbox ?_; refine s_lbox ?_) | (refine g_lmove ?_; refine s_lmove ?_) | (refine g_hload ?_; refine s_hloadP ?_) | (refine g_hstore ?_; (refine s_hstoreB ?_; intro G' hle ho hkp)) | (refine g_b2s ?_; refine s_b2sB ?_)) | (with_reducible refine i_vc ?_; first | refine v_seq ?_ | refine v_ops ?_ | (refine g_cond ?_; first | refine s_cond_t ?_ | refine s_cond_f ?_) | refine v_block ?_ | refine v_skip ?_ | refine v_exit ?_ | refine v_ret ?_ | refine s_drawl ?_ | refine v_draw0 ?_ | refine v_scope ?_) | (with_reducible refine i_plan ?_; first | refine p_done ?_ | refine s_pre ?_ | refine s_preN ?_ | refine s_ag_t ?_ | refine s_ag_f ?_ | refine s_alt ?_ | refine p_alt ?_ ?_) | (with_reducible first | refine n_then ?_ | refine r_then ?_ | refine e_then ?_ | refine n_block ?_ | refine r_block ?_ | refine e_block_eq (by with_unfolding_all rfl) ?_ | refine e_block_ne (by with_unfolding_all rfl) ?_ | refine n_scope ?_ | refine r_scope ?_ | refine e_scope ?_ | (refine g_stand ?_; first | refine s_stand ?_ | refine s_standL ?_)) | ((with_reducible first | refine s_g_c ?_ ?_ | refine s_cond_c ?_ ?_ | refine s_tg_c ?_ ?_ | refine s_ag_c ?_ ?_) <;> intro hb <;> rw [hb] <;> (try simp only [decide_eq_true_eq, decide_eq_false_iff_not, beq_iff_eq, bne_iff_ne, beq_eq_false_iff_ne, bne_eq_false_iff_eq, ne_eq, Int.not_lt, Int.not_le, gt_iff_lt, ge_iff_le, Bool.not_eq_true', Bool.not_eq_false'] at hb)) | ((with_reducible first | refine s_ret ?_ | refine s_normal ?_); try simp only [x_tup0, x_tup1, x_tup2, x_tup3, x_tup4, x_tup5, and_true, true_and])))
  have e : IntKind.i64.wrap ((IntKind.u64.wrap k).tmod 256) = k % 256 := by
    rw [wrap_u64, Int.tmod_eq_emod_of_nonneg (by omega), wrap_i64 (by omega) (by omega)]; omega
  refine ⟨_, .slice a2 n2 c2, rfl, ?_, ?_, ?_⟩
  · show 0 ≤ IntKind.i64.wrap ((IntKind.u64.wrap k).tmod 256); omega
  · show IntKind.i64.wrap ((IntKind.u64.wrap k).tmod 256) ≤ 255; omega
  · have e2 : d.take (if (65535 : Int) < d.length then (65535 : Int) else d.length).toNat = d.take 65535 := by
      split
      · rfl
      · rw [Int.toNat_natCast, List.take_length, List.take_of_length_le (by omega)]
    rw [e2] at hus; exact hus
/-! ### The spoilt slip: plain -/
def gS (f : Nat) (M : BitVec 32) (p : Nat) : Bool := decide (f ≤ p) && M.getLsbD (p - f) && !(p / 8 == 1) && !(p / 8 == 2)
def Sp (b cur : List UInt8) (f : Nat) (M : BitVec 32) (i : Nat) : Prop := cur.length = b.length ∧ ∀ p, bitat cur p = (bitat b p ^^ (gS f M p && decide (p < f + i)))
theorem Sp.zero (b : List UInt8) (f : Nat) (M : BitVec 32) : Sp b b f M 0 := by
  refine ⟨rfl, fun p => ?_⟩
  unfold gS
  by_cases h : f ≤ p
  · have : ¬ p < f := by omega
    simp [this]
  · simp [h]
theorem bit_mask (M : BitVec 32) (i : Nat) : ((M >>> i) % 2#32).toNat = 1 ↔ M.getLsbD i = true := by
  rw [BitVec.toNat_umod, BitVec.toNat_ushiftRight, Nat.shiftRight_eq_div_pow, BitVec.getLsbD, Nat.testBit_eq_decide_div_mod_eq]
  simp
theorem Sp.skip {b cur : List UInt8} {f : Nat} {M : BitVec 32} {i : Nat} (h : Sp b cur f M i) (hg : gS f M (f + i) = false) : Sp b cur f M (i + 1) := by
  refine ⟨h.1, fun p => ?_⟩
  rw [h.2 p]
  by_cases hp : p = f + i
  · rw [hp, hg]; simp
  · congr 2
    have : (p < f + i) ↔ (p < f + (i + 1)) := by omega
    simp [this]
theorem Sp.turn {b cur : List UInt8} {f : Nat} {M : BitVec 32} {i : Nat} (h : Sp b cur f M i) (hg : gS f M (f + i) = true) (hi : f + i < 8 * b.length) : Sp b (cur.set ((f + i) / 8) (cur.getD ((f + i) / 8) 0 ^^^ UInt8.ofNat (2 ^ ((f + i) % 8)))) f M (i + 1) := by
  have hk : (f + i) / 8 < cur.length := by rw [h.1]; omega
  refine ⟨by rw [List.length_set]; exact h.1, fun p => ?_⟩
  have hb : bitat (cur.set ((f + i) / 8) (cur.getD ((f + i) / 8) 0 ^^^ UInt8.ofNat (2 ^ ((f + i) % 8)))) p = (bitat cur p ^^ decide (p = f + i)) := by
    unfold bitat
    by_cases hq : p / 8 = (f + i) / 8
    · rw [hq]
      have e1 : (cur.set ((f + i) / 8) (cur.getD ((f + i) / 8) 0 ^^^ UInt8.ofNat (2 ^ ((f + i) % 8)))).getD ((f + i) / 8) 0 = cur.getD ((f + i) / 8) 0 ^^^ UInt8.ofNat (2 ^ ((f + i) % 8)) := by
        rw [List.getD_eq_getElem?_getD, List.getElem?_set_self hk]; rfl
      rw [e1, UInt8.toNat_xor, Nat.testBit_xor, UInt8.toNat_ofNat', Nat.testBit_mod_two_pow]
      rw [show decide (p % 8 < 8) = true by simp; omega, Bool.true_and, Nat.testBit_two_pow]
      congr 1
      have : ((f + i) % 8 = p % 8) ↔ (p = f + i) := by omega
      simp [this]
    · have e1 : (cur.set ((f + i) / 8) (cur.getD ((f + i) / 8) 0 ^^^ UInt8.ofNat (2 ^ ((f + i) % 8)))).getD (p / 8) 0 = cur.getD (p / 8) 0 := by
        rw [List.getD_eq_getElem?_getD, List.getElem?_set_ne (by omega), ← List.getD_eq_getElem?_getD]
      rw [e1]
      have : ¬ p = f + i := fun e => hq (by rw [e])
      simp [this]
  rw [hb, h.2 p]
  by_cases hp : p = f + i
  · subst hp; rw [hg]; simp
  · have : (p < f + i) ↔ (p < f + (i + 1)) := by omega
    simp [hp, this]
theorem gS_high {f : Nat} {M : BitVec 32} {p : Nat} (h : f + 32 ≤ p) : gS f M p = false := by
  unfold gS; rw [BitVec.getLsbD_of_ge _ _ (by omega)]; simp
theorem gS_low {f : Nat} {M : BitVec 32} {p : Nat} (h : p < f) : gS f M p = false := by
  unfold gS; rw [show decide (f ≤ p) = false by simp; omega]; simp
theorem Sp.fin {b cur : List UInt8} {f : Nat} {M : BitVec 32} {i : Nat} (h : Sp b cur f M i) (hi : 32 ≤ i ∨ 8 * b.length ≤ f + i) : ∀ p, p < 8 * b.length → bitat cur p = (bitat b p ^^ gS f M p) := by
  intro p hp
  rw [h.2 p]
  congr 1
  by_cases h1 : p < f + i
  · simp [h1]
  · rw [gS_high (by omega)]; simp
theorem slip_pre_len (k : Int) (d : List UInt8) : (preB k d).length = 3 + d.length := by unfold preB; simp; omega
theorem slip_len (k : Int) (d : List UInt8) : (slipB k d).length = 7 + d.length := by unfold slipB; rw [List.length_append, slip_pre_len, leB_len]; omega
theorem slip_n (k : Int) (d : List UInt8) (h : d.length ≤ 65535) : slN (slipB k d) = d.length := by
  unfold slN slipB preB
  show (UInt8.ofInt ((d.length : Int) % 256)).toNat + 256 * (UInt8.ofInt ((d.length : Int) / 256)).toNat = d.length
  rw [show ((d.length : Int) % 256) = ((d.length % 256 : Nat) : Int) by omega, show ((d.length : Int) / 256) = ((d.length / 256 : Nat) : Int) by omega, ofInt_nat, ofInt_nat, UInt8.toNat_ofNat', UInt8.toNat_ofNat']
  omega
theorem slip_take (k : Int) (d : List UInt8) : (slipB k d).take (3 + d.length) = preB k d := by
  unfold slipB; rw [List.take_append_of_le_length (by rw [slip_pre_len]; omega), List.take_of_length_le (by rw [slip_pre_len]; omega)]
theorem slip_drop (k : Int) (d : List UInt8) : (slipB k d).drop (3 + d.length) = leB (sumB (preB k d)) 4 := by
  unfold slipB; rw [← slip_pre_len k d, List.drop_left]
theorem slip_E (k : Int) (d : List UInt8) (h : d.length ≤ 65535) : slE (slipB k d) = 0 := by
  unfold slE
  rw [slip_n k d h, slip_len, if_neg (by omega), if_neg (by omega), slip_take, slip_drop, List.take_of_length_le (by rw [leB_len]; omega), if_neg (by simp)]
theorem slip_D (k : Int) (d : List UInt8) (h : d.length ≤ 65535) : slD (slipB k d) = d := by
  unfold slD
  rw [slip_n k d h]
  show ((d ++ leB (sumB (preB k d)) 4).take d.length) = d
  rw [List.take_append_of_le_length (Nat.le_refl _), List.take_length]
theorem slip_K (k : Int) (d : List UInt8) (h0 : 0 ≤ k) (h1 : k ≤ 255) : byt (slipB k d) 0 = k := by
  show (((UInt8.ofInt k).toNat : Nat) : Int) = k
  obtain ⟨n, rfl⟩ : ∃ n : Nat, k = n := ⟨k.toNat, by omega⟩
  rw [ofInt_nat, UInt8.toNat_ofNat']; omega
theorem getD_bits {a b : List UInt8} (j : Nat) (h : ∀ i, i < 8 → bitat a (8 * j + i) = bitat b (8 * j + i)) : a.getD j 0 = b.getD j 0 := by
  apply byte_ext
  intro i hi
  have := h i hi
  unfold bitat at this
  rwa [show (8 * j + i) / 8 = j by omega, show (8 * j + i) % 8 = i by omega] at this
theorem spoil_same {b cur : List UInt8} {f : Nat} {M : BitVec 32} (hl : cur.length = b.length) (h : ∀ p, p < 8 * b.length → bitat cur p = (bitat b p ^^ gS f M p)) (hg : ∀ p, p < 8 * b.length → gS f M p = false) : cur = b := by
  refine bytes_ext hl fun p hp => ?_
  rw [hl] at hp
  rw [h p hp, hg p hp]; simp
theorem spoil_bad {cur : List UInt8} {k : Int} {d : List UInt8} {f : Nat} {M : BitVec 32} (hd : d.length ≤ 65535) (hl : cur.length = (slipB k d).length) (h : ∀ p, p < 8 * (slipB k d).length → bitat cur p = (bitat (slipB k d) p ^^ gS f M p)) (hg : ∃ p, p < 8 * (slipB k d).length ∧ gS f M p = true) : slE cur = 91 := by
  have hlen := slip_len k d
  have hk : ∀ j, j = 1 ∨ j = 2 → cur.getD j 0 = (slipB k d).getD j 0 := fun j hj => getD_bits j fun i hi => by
    rw [h _ (by omega)]
    have : gS f M (8 * j + i) = false := by
      unfold gS
      rw [show (8 * j + i) / 8 = j by omega]
      rcases hj with rfl | rfl <;> simp
    rw [this]; simp
  have hn : slN cur = d.length := by
    rw [← slip_n k d hd]
    unfold slN
    rw [hk 1 (.inl rfl), hk 2 (.inr rfl)]
  unfold slE
  rw [hn, if_neg (by omega), if_neg (by omega)]
  by_cases hs : leB (sumB (cur.take (3 + d.length))) 4 = (cur.drop (3 + d.length)).take 4
  · exfalso
    rw [List.take_of_length_le (show (cur.drop (3 + d.length)).length ≤ 4 by rw [List.length_drop]; omega)] at hs
    have hx : cur = cur.take (3 + d.length) ++ leB (sumB (cur.take (3 + d.length))) 4 := by rw [hs, List.take_append_drop]
    have hy : slipB k d = preB k d ++ leB (sumB (preB k d)) 4 := rfl
    have := same_sum (p := cur.take (3 + d.length)) (q := preB k d) (by rw [List.length_take, slip_pre_len]; omega) hx hy (m := f) (fun p hp hh => by
      rw [h p (by omega)]
      have : gS f M p = false := hh.elim gS_low gS_high
      rw [this]; simp)
    obtain ⟨p, hp, hgp⟩ := hg
    have h1 := this p (by omega)
    rw [h p hp, hgp] at h1
    revert h1; cases bitat (slipB k d) p <;> simp
  · rw [if_pos hs]
end Go.Proofs.Ytnddanaangolgaa.V
