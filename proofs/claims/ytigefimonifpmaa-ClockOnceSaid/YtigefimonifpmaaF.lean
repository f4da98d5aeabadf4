/- The next second, the day of the week. -/
import Derived.Test.YtigefimonifpmaaE
set_option linter.unusedSimpArgs false
set_option linter.unusedVariables false
namespace Go.Proofs.Ytigefimonifpmaa.V
open Go.RowKit Go.ChangeShapes Go.WideShapes
theorem week20 (t : Int) (G : GH) : HC Try.prog 20 #[.int .i64 t] G fun v G' => v = .tuple #[.int .i64 (if isT t then (t + 631152000) / 86400 % 7 else 0), .int .i64 (if isT t then 0 else 40)] ∧ G' = G := by
  refine HC.start comp20 rfl ?_; unfold pc20
  (repeat' (first | (with_reducible refine i_ops ?_; first | (refine g_mv ?_; refine s_mv ?_) | refine o_nil ?_ | (refine g_some ?_; first | refine s_g_t ?_ | refine s_g_f ?_ | refine s_g_f' ?_ | refine s_g_u ?_) | (refine g_pick ?_; first | refine s_pick_t ?_ | refine s_pick_f ?_) | (refine g_len ?_; first | refine s_lenB ?_ | refine s_pure ?_) | (refine g_idx ?_; first | (refine s_idxOB ?_; intro p hp hpw) | (refine s_idxB ?_; intro p hp)) | (refine g_slc ?_; ((first | refine s_slcB ?_ | refine s_slcB01 ?_ | refine s_slcB10 ?_); intro us hus hbs)) | (refine g_build ?_; first | refine s_build ?_ | refine s_buildP ?_) | (refine g_pure ?_; first | refine s_pure ?_ | refine s_saddB ?_) | (refine g_lfield ?_; refine s_lfield ?_) | (refine g_lload ?_; refine s_lload ?_) | (refine g_lstore ?_; first | refine s_lstoreA ?_ | refine s_lstore ?_) | (refine g_lindex ?_; refine s_lindex ?_) | (refine g_lalloc ?_; refine s_lalloc ?_) | (refine g_lbox ?_; refine s_lbox ?_) | (refine g_lmove ?_; refine s_lmove ?_) | (refine g_hload ?_; refine s_hloadP ?_) | (refine g_hstore ?_; (refine s_hstoreB ?_; intro G' hle ho hkp)) | (refine g_b2s ?_; refine s_b2sB ?_)) | (with_reducible refine i_vc ?_; first | refine v_seq ?_ | refine v_ops ?_ | (refine g_cond ?_; first | refine s_cond_t ?_ | refine s_cond_f ?_) | refine v_block ?_ | refine v_skip ?_ | refine v_exit ?_ | refine v_ret ?_ | refine s_drawl ?_ | refine v_draw0 ?_ | refine v_scope ?_) | (with_reducible refine i_plan ?_; first | refine p_done ?_ | refine s_pre ?_ | refine s_preN ?_ | refine s_ag_t ?_ | refine s_ag_f ?_ | refine s_alt ?_) | (with_reducible first | refine n_then ?_ | refine r_then ?_ | refine e_then ?_ | refine n_block ?_ | refine r_block ?_ | refine e_block_eq (by with_unfolding_all rfl) ?_ | refine e_block_ne (by with_unfolding_all rfl) ?_ | refine n_scope ?_ | refine r_scope ?_ | refine e_scope ?_ | (refine g_stand ?_; first | refine s_stand ?_ | refine s_standL ?_)) | ((with_reducible first | refine s_g_c ?_ ?_ | refine s_cond_c ?_ ?_ | refine s_tg_c ?_ ?_ | refine s_ag_c ?_ ?_) <;> intro hb <;> rw [hb] <;> (try simp only [decide_eq_true_eq, decide_eq_false_iff_not, beq_iff_eq, bne_iff_ne, beq_eq_false_iff_ne, bne_eq_false_iff_eq, ne_eq, Int.not_lt, Int.not_le, gt_iff_lt, ge_iff_le, Bool.not_eq_true', Bool.not_eq_false'] at hb)) | ((with_reducible first | refine s_ret ?_ | refine s_normal ?_); try simp only [x_tup0, x_tup1, x_tup2, x_tup3, x_tup4, x_tup5, and_true, true_and])))
  · rw [if_neg (by unfold isT; omega), if_neg (by unfold isT; omega)]
  · rw [if_neg (by unfold isT; omega), if_neg (by unfold isT; omega)]
  · rename_i h1
    have h2 := hb
    have hT : isT t := ⟨h1, h2⟩
    rw [if_pos hT, if_pos hT]
    congr 4
/-- As a time in the calendar, of any year. -/
def okN (y mo d h mi s : Int) : Prop := 1950 ≤ y ∧ y ≤ 10000 ∧ 1 ≤ d ∧ d ≤ mdays y mo ∧ 0 ≤ h ∧ h ≤ 23 ∧ 0 ≤ mi ∧ mi ≤ 59 ∧ 0 ≤ s ∧ s ≤ 59
def NextR (y mo d h mi s : Int) (v : Value) : Prop := ∃ y' mo' d' h' mi' s', v = civ y' mo' d' h' mi' s' ∧ okN y' mo' d' h' mi' s' ∧ secOf y' mo' d' h' mi' s' = secOf y mo d h mi s + 1 ∧ ((d' = d ∧ dayNo y' mo' d' = dayNo y mo d) ∨ (d' ≠ d ∧ dayNo y' mo' d' = dayNo y mo d + 1))
theorem mdays_pos {y mo : Int} (h1 : 1 ≤ mo) (h2 : mo ≤ 12) : 28 ≤ mdays y mo := by
  unfold mdays; repeat' split
  all_goals omega
theorem next21 (y mo d h mi s : Int) (G : GH) (o : okC y mo d h mi s) : HC Try.prog 21 #[civ y mo d h mi s] G fun v G' => NextR y mo d h mi s v ∧ G' = G := by
  obtain ⟨o1, o2, o3, o4, o5, o6, o7, o8, o9, o10⟩ := o
  have hm := mon_of_ok o3 o4
  have md := mdays_nn y mo
  have mp1 := mdays_pos (y := y) hm.1 hm.2
  have mp2 : mo ≤ 11 → 28 ≤ mdays y (mo + 1) := fun h => mdays_pos (by omega) (by omega)
  have mp3 : 28 ≤ mdays (y + 1) 1 := mdays_pos (by omega) (by omega)
  have m12 : mdays y 12 = 31 := by simp [mdays]
  have sc := sumM_succ y hm.1
  have s12 := sum12 y
  have asu := ahead_succ y
  have d1 : d = mdays y mo → dayNo y (mo + 1) 1 = dayNo y mo d + 1 := by unfold dayNo; omega
  have d2 : mo = 12 → d = mdays y mo → dayNo (y + 1) 1 1 = dayNo y mo d + 1 := by
    intro e; subst e; intro e
    rw [show ((12 : Int) + 1 - 1).toNat = 12 from rfl] at sc
    unfold dayNo
    rw [show ((1 : Int) - 1).toNat = 0 from rfl, sumM]
    omega
  have d3 : dayNo y mo (d + 1) = dayNo y mo d + 1 := by unfold dayNo; omega
  unfold civ
  refine HC.start comp21 rfl ?_; unfold pc21
  (repeat' (first | (with_reducible refine i_ops ?_; first | (refine g_mv ?_; refine s_mv ?_) | refine o_nil ?_ | (refine g_some ?_; first | refine s_g_t ?_ | refine s_g_f ?_ | refine s_g_f' ?_ | refine s_g_u ?_) | (refine g_pick ?_; first | refine s_pick_t ?_ | refine s_pick_f ?_) | (refine g_len ?_; first | refine s_lenB ?_ | refine s_pure ?_) | (refine g_idx ?_; first | (refine s_idxOB ?_; intro p hp hpw) | (refine s_idxB ?_; intro p hp)) | (refine g_slc ?_; ((first | refine s_slcB ?_ | refine s_slcB01 ?_ | refine s_slcB10 ?_); intro us hus hbs)) | (refine g_build ?_; first | refine s_build ?_ | refine s_buildP ?_) | (refine g_pure ?_; first | refine s_pure ?_ | refine s_saddB ?_) | (refine g_lfield ?_; refine s_lfield ?_) | (refine g_lload ?_; refine s_lload ?_) | (refine g_lstore ?_; first | refine s_lstoreA ?_ | refine s_lstore ?_) | (refine g_lindex ?_; refine s_lindex ?_) | (refine g_lalloc ?_; refine s_lalloc ?_) | (refine g_lbox ?_; refine s_lbox ?_) | (refine g_lmove ?_; refine s_lmove ?_) | (refine g_hload ?_; refine s_hloadP ?_) | (refine g_hstore ?_; (refine s_hstoreB ?_; intro G' hle ho hkp)) | (refine g_b2s ?_; refine s_b2sB ?_) | refine o_callp (by with_unfolding_all rfl) (by first | exact days14 _ _ _) ?_ | (refine o_callg (by with_unfolding_all rfl) (by first | exact days14 _ _ _) ?_; intro G' hle)) | (with_reducible refine i_vc ?_; first | refine v_seq ?_ | refine v_ops ?_ | (refine g_cond ?_; first | refine s_cond_t ?_ | refine s_cond_f ?_) | refine v_block ?_ | refine v_skip ?_ | refine v_exit ?_ | refine v_ret ?_ | refine s_drawl ?_ | refine v_draw0 ?_ | refine v_scope ?_) | (with_reducible refine i_plan ?_; first | refine p_done ?_ | refine s_pre ?_ | refine s_preN ?_ | refine s_ag_t ?_ | refine s_ag_f ?_ | refine p_callp (by with_unfolding_all rfl) (by first | exact days14 _ _ _) (by first | assumption | exact GH.le_refl _ | ((repeat (first | exact GH.le_refl _ | assumption | refine GH.le_trans ?_ (by assumption))); first | done | fail)) ?_ p_no | (refine p_callg (by with_unfolding_all rfl) (by first | exact days14 _ _ _) (by first | assumption | exact GH.le_refl _ | ((repeat (first | exact GH.le_refl _ | assumption | refine GH.le_trans ?_ (by assumption))); first | done | fail)) ?_ p_no; intro G' hle) | refine s_alt ?_) | (with_reducible first | refine n_then ?_ | refine r_then ?_ | refine e_then ?_ | refine n_block ?_ | refine r_block ?_ | refine e_block_eq (by with_unfolding_all rfl) ?_ | refine e_block_ne (by with_unfolding_all rfl) ?_ | refine n_scope ?_ | refine r_scope ?_ | refine e_scope ?_ | (refine g_stand ?_; first | refine s_stand ?_ | refine s_standL ?_)) | ((with_reducible first | refine s_g_c ?_ ?_ | refine s_cond_c ?_ ?_ | refine s_tg_c ?_ ?_ | refine s_ag_c ?_ ?_) <;> intro hb <;> rw [hb] <;> (try simp only [decide_eq_true_eq, decide_eq_false_iff_not, beq_iff_eq, bne_iff_ne, beq_eq_false_iff_ne, bne_eq_false_iff_eq, ne_eq, Int.not_lt, Int.not_le, gt_iff_lt, ge_iff_le, Bool.not_eq_true', Bool.not_eq_false'] at hb)) | ((with_reducible first | refine s_ret ?_ | refine s_normal ?_); try simp only [x_tup0, x_tup1, x_tup2, x_tup3, x_tup4, x_tup5, and_true, true_and])))
  all_goals first
    | (exfalso; omega)
    | (refine ⟨_, _, _, _, _, _, rfl, ?_, ?_, ?_⟩
       · unfold okN; omega
       · unfold secOf; omega
       · omega)
end Go.Proofs.Ytigefimonifpmaa.V
