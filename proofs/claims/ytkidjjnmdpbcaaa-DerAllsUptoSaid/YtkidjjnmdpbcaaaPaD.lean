/- An element is taken, by the document. -/
import Derived.Test.YtkidjjnmdpbcaaaPaC
set_option linter.unusedSimpArgs false
set_option linter.unusedVariables false
namespace Go.Proofs.Ytkidjjnmdpbcaaa.V
open Go.RowKit Go.ChangeShapes Go.WideShapes
set_option maxHeartbeats 4000000 in
theorem takeR21 (u : Value) (bs : List UInt8) (G : GH) (h : By G u bs) : HC Try.prog 21 #[u] G fun v G' => TakeR bs G v G' := by
  have hl := By.len_le h
  have x0 := lt8 (bs.getD 0 0)
  have x1 := lt8 (bs.getD 1 0)
  refine HC.start comp21 rfl ?_; unfold pc21
  (repeat' (first | (with_reducible refine i_ops ?_; first | (refine g_mv ?_; refine s_mv ?_) | refine o_nil ?_ | (refine g_some ?_; first | refine s_g_t ?_ | refine s_g_f ?_ | refine s_g_f' ?_ | refine s_g_u ?_) | (refine g_pick ?_; first | refine s_pick_t ?_ | refine s_pick_f ?_) | (refine g_len ?_; first | refine s_lenB ?_ | refine s_pure ?_) | (refine g_idx ?_; first | (refine s_idxOB ?_; intro p hp hpw) | (refine s_idxB ?_; intro p hp)) | (refine g_slc ?_; ((first | refine s_slcB ?_ | refine s_slcB01 ?_ | refine s_slcB10 ?_); intro us hus hbs)) | (refine g_build ?_; first | refine s_build ?_ | refine s_buildP ?_) | (refine g_pure ?_; first | refine s_pure ?_ | refine s_saddB ?_) | (refine g_lstore ?_; first | refine s_lstoreA ?_ | refine s_lstore ?_) | (refine g_lalloc ?_; refine s_lalloc ?_) | (refine g_hload ?_; refine s_hloadP ?_) | refine o_callp (by with_unfolding_all rfl) (by first | exact isTag38 _ _ (by omega) (by omega)) ?_ | (refine o_callg (by with_unfolding_all rfl) (by first | exact isTag38 _ _ (by omega) (by omega)) ?_; intro G' hle)) | (with_reducible refine i_vc ?_; first | refine v_seq ?_ | refine v_ops ?_ | (refine g_cond ?_; first | refine s_cond_t ?_ | refine s_cond_f ?_) | refine v_block ?_ | refine v_skip ?_ | refine v_exit ?_ | refine v_ret ?_ | refine s_drawl ?_ | refine v_draw0 ?_) | (with_reducible refine i_plan ?_; first | refine p_done ?_ | refine s_pre ?_ | refine s_preN ?_ | refine s_ag_t ?_ | refine s_ag_f ?_ | refine p_callp (by with_unfolding_all rfl) (by first | exact isTag38 _ _ (by omega) (by omega)) (by first | assumption | exact GH.le_refl _ | ((repeat (first | exact GH.le_refl _ | assumption | refine GH.le_trans ?_ (by assumption))); first | done | fail)) ?_ p_no | (refine p_callg (by with_unfolding_all rfl) (by first | exact isTag38 _ _ (by omega) (by omega)) (by first | assumption | exact GH.le_refl _ | ((repeat (first | exact GH.le_refl _ | assumption | refine GH.le_trans ?_ (by assumption))); first | done | fail)) ?_ p_no; intro G' hle) | refine s_alt ?_ | refine p_alt ?_ ?_) | (with_reducible first | refine n_then ?_ | refine r_then ?_ | refine e_then ?_ | refine n_block ?_ | refine r_block ?_ | refine e_block_eq (by with_unfolding_all rfl) ?_ | refine e_block_ne (by with_unfolding_all rfl) ?_ | (refine g_stand ?_; first | refine s_stand ?_ | refine s_standL ?_)) | ((with_reducible first | refine s_g_c ?_ ?_ | refine s_cond_c ?_ ?_ | refine s_tg_c ?_ ?_ | refine s_ag_c ?_ ?_) <;> intro hb <;> rw [hb] <;> (try simp only [decide_eq_true_eq, decide_eq_false_iff_not, beq_iff_eq, bne_iff_ne, beq_eq_false_iff_ne, bne_eq_false_iff_eq, ne_eq, Int.not_lt, Int.not_le, gt_iff_lt, ge_iff_le, Bool.not_eq_true', Bool.not_eq_false'] at hb)) | ((with_reducible first | refine s_ret ?_ | refine s_normal ?_); try simp only [x_tup0, x_tup1, x_tup2, x_tup3, x_tup4, x_tup5, and_true, true_and])))
  all_goals first
    | (exfalso; omega)
    | (apply tk_err (c := 10) _ (by decide); unfold hdrE byt; (repeat' split) <;> omega)
    | (apply tk_err (c := 11) _ (by decide); unfold hdrE byt; (repeat' split) <;> omega)
    | (apply tk_err (c := 12) _ (by decide); unfold hdrE byt; (repeat' split) <;> omega)
    | skip
  · have hge := hb
    have h128 : ¬ ((bs.getD 1 0).toNat : Int) < 128 := by omega
    have n128 : ¬ (((bs.getD 1 0).toNat : Int) = 128 ∨ ((bs.getD 1 0).toNat : Int) > 131 ∨ (2 < bs.length ∧ ((bs.getD 2 0).toNat : Int) = 0)) := by omega
    have l0 : ¬ bs.length = 0 := by omega
    have l1 : ¬ bs.length = 1 := by omega
    have htg : tagP ((bs.getD 0 0).toNat : Int) := by assumption
    obtain ⟨k, hk⟩ : ∃ k : Nat, ((bs.getD 1 0).toNat : Int) - 128 = k := ⟨((bs.getD 1 0).toNat - 128), by omega⟩
    rw [hk] at hge ⊢
    obtain ⟨w, hw⟩ : ∃ w, (bs.drop 2).take k = w := ⟨_, rfl⟩
    have hwl : w.length = k := by rw [← hw, List.length_take, List.length_drop]; omega
    have hk3 : k ≤ 3 := by omega
    have pm (i : Nat) (hi : i ≤ k) : (256 : Int) ^ i ≤ 16777216 := by
      have : i ≤ 3 := by omega
      rcases i with _ | _ | _ | _ | k <;> first | decide | omega
    have hwk : (bs.drop 2).take (byt bs 1 - 128).toNat = w := by rw [← hw]; congr 1; simp only [byt]; omega
    have hE : hdrE bs = if num w < 128 then 12 else 0 := by
      unfold hdrE; rw [hwk]; simp only [byt]
      rw [if_neg l0, if_neg (not_not_intro htg), if_neg l1, if_neg h128, if_neg n128, if_neg (by omega)]
    have hF : hdrF bs = 2 + k := by unfold hdrF byt; rw [if_neg h128, hk]
    have hN : hdrN bs = num w := by unfold hdrN; rw [hwk]; unfold byt; rw [if_neg h128]
    refine v_loopX (α := Nat) (fun i => i ≤ k) (fun i => [(0, u), (2, .int .u64 0), (5, .int .i64 (num (w.take i))), (7, .int .i64 k), (8, .int .i64 i)]) (fun _ => [(2, #[.int .i64 0, .slice none 0 0])]) (fun _ => G) (fun i => k - i) 0
      (Nat.zero_le _) (by refine ⟨SL.get_fn (by with_unfolding_all rfl), SL.get_fn (by with_unfolding_all rfl), SL.get_fn (by with_unfolding_all rfl), SL.get_fn (by with_unfolding_all rfl), SL.get_fn (by with_unfolding_all rfl), trivial⟩) (by exact ⟨AL.get_fn (by with_unfolding_all rfl), trivial⟩) rfl ?_
    rintro i s ll k1
    dsimp only [SL.sets, AL.sets]
    have nn := num_nn w i (by omega)
    have pi := pm i k1
    have xi := lt8 (bs.getD ((2 : Int) + i).toNat 0)
    have e2 : ((2 : Int) + i).toNat = 2 + i := by omega
    (repeat' (first | (with_reducible refine i_ops ?_; first | (refine g_mv ?_; refine s_mv ?_) | refine o_nil ?_ | (refine g_some ?_; first | refine s_g_t ?_ | refine s_g_f ?_ | refine s_g_f' ?_ | refine s_g_u ?_) | (refine g_pick ?_; first | refine s_pick_t ?_ | refine s_pick_f ?_) | (refine g_len ?_; first | refine s_lenB ?_ | refine s_pure ?_) | (refine g_idx ?_; first | (refine s_idxOB ?_; intro p hp hpw) | (refine s_idxB ?_; intro p hp)) | (refine g_slc ?_; ((first | refine s_slcB ?_ | refine s_slcB01 ?_ | refine s_slcB10 ?_); intro us hus hbs)) | (refine g_build ?_; first | refine s_build ?_ | refine s_buildP ?_) | (refine g_pure ?_; first | refine s_pure ?_ | refine s_saddB ?_) | (refine g_lstore ?_; first | refine s_lstoreA ?_ | refine s_lstore ?_) | (refine g_lalloc ?_; refine s_lalloc ?_) | (refine g_hload ?_; refine s_hloadP ?_)) | (with_reducible refine i_vc ?_; first | refine v_seq ?_ | refine v_ops ?_ | (refine g_cond ?_; first | refine s_cond_t ?_ | refine s_cond_f ?_) | refine v_block ?_ | refine v_skip ?_ | refine v_exit ?_ | refine v_ret ?_ | refine s_drawl ?_ | refine v_draw0 ?_) | (with_reducible refine i_plan ?_; first | refine p_done ?_ | refine s_pre ?_ | refine s_preN ?_ | refine s_ag_t ?_ | refine s_ag_f ?_ | refine s_alt ?_ | refine p_alt ?_ ?_) | (with_reducible first | refine n_then ?_ | refine r_then ?_ | refine e_then ?_ | refine n_block ?_ | refine r_block ?_ | refine e_block_eq (by with_unfolding_all rfl) ?_ | refine e_block_ne (by with_unfolding_all rfl) ?_ | (refine g_stand ?_; first | refine s_stand ?_ | refine s_standL ?_)) | ((with_reducible first | refine s_g_c ?_ ?_ | refine s_cond_c ?_ ?_ | refine s_tg_c ?_ ?_ | refine s_ag_c ?_ ?_) <;> intro hb <;> rw [hb] <;> (try simp only [decide_eq_true_eq, decide_eq_false_iff_not, beq_iff_eq, bne_iff_ne, beq_eq_false_iff_ne, bne_eq_false_iff_eq, ne_eq, Int.not_lt, Int.not_le, gt_iff_lt, ge_iff_le, Bool.not_eq_true', Bool.not_eq_false'] at hb)) | ((with_reducible first | refine s_ret ?_ | refine s_normal ?_); try simp only [x_tup0, x_tup1, x_tup2, x_tup3, x_tup4, x_tup5, and_true, true_and])))
    · have hi : i < w.length := by omega
      have eg : bs.getD ((2 : Int) + i).toNat 0 = w.getD i 0 := by
        rw [e2, ← hw]; simp only [List.getD_eq_getElem?_getD, List.getElem?_take, List.getElem?_drop]
        rw [if_pos (by omega)]
      refine ⟨k - (i + 1), by omega, i + 1, rfl, by omega, ?_, ⟨AL.get_fn (by with_unfolding_all rfl), trivial⟩, rfl⟩
      rw [num_take hi, ← eg]
      exact (by refine ⟨SL.get_fn (by with_unfolding_all rfl), SL.get_fn (by with_unfolding_all rfl), SL.get_fn (by with_unfolding_all rfl), SL.get_fn (by with_unfolding_all rfl), SL.get_fn (by with_unfolding_all rfl), trivial⟩)
    · have hi : i = k := by omega
      have tw : w.take i = w := by rw [hi, ← hwl, List.take_length]
      have hn : num (w.take i) < 128 := by assumption
      rw [tw] at hn
      exact tk_err (by rw [hE, if_pos hn]) (by decide)
    · have hi : i = k := by omega
      have tw : w.take i = w := by rw [hi, ← hwl, List.take_length]
      have hn : 128 ≤ num (w.take i) := by assumption
      rw [tw] at hn hb
      have hE0 : hdrE bs = 0 := by rw [hE, if_neg (by omega)]
      exact tk_short hE0 (by rw [hF, hN]; omega)
    · have hi : i = k := by omega
      have tw : w.take i = w := by rw [hi, ← hwl, List.take_length]
      have hn : 128 ≤ num (w.take i) := by assumption
      rw [tw] at hn hus
      rw [tw] at hb ⊢
      have hE0 : hdrE bs = 0 := by rw [hE, if_neg (by omega)]
      have hc := tkC_len hE0
      have ec := tkC_eq hE0
      rw [hF, hN] at ec
      rw [ec] at hus
      refine o_bsliceB [] (by with_unfolding_all rfl) rfl rfl rfl rfl rfl ?_; intro w1 G1 hle ho hw1
      (repeat' (first | (with_reducible refine i_ops ?_; first | (refine g_mv ?_; refine s_mv ?_) | refine o_nil ?_ | (refine g_some ?_; first | refine s_g_t ?_ | refine s_g_f ?_ | refine s_g_f' ?_ | refine s_g_u ?_) | (refine g_pick ?_; first | refine s_pick_t ?_ | refine s_pick_f ?_) | (refine g_len ?_; first | refine s_lenB ?_ | refine s_pure ?_) | (refine g_idx ?_; first | (refine s_idxOB ?_; intro p hp hpw) | (refine s_idxB ?_; intro p hp)) | (refine g_slc ?_; ((first | refine s_slcB ?_ | refine s_slcB01 ?_ | refine s_slcB10 ?_); intro us hus hbs)) | (refine g_build ?_; first | refine s_build ?_ | refine s_buildP ?_) | (refine g_pure ?_; first | refine s_pure ?_ | refine s_saddB ?_) | (refine g_lstore ?_; first | refine s_lstoreA ?_ | refine s_lstore ?_) | (refine g_lalloc ?_; refine s_lalloc ?_) | (refine g_hload ?_; refine s_hloadP ?_)) | (with_reducible refine i_vc ?_; first | refine v_seq ?_ | refine v_ops ?_ | (refine g_cond ?_; first | refine s_cond_t ?_ | refine s_cond_f ?_) | refine v_block ?_ | refine v_skip ?_ | refine v_exit ?_ | refine v_ret ?_ | refine s_drawl ?_ | refine v_draw0 ?_) | (with_reducible refine i_plan ?_; first | refine p_done ?_ | refine s_pre ?_ | refine s_preN ?_ | refine s_ag_t ?_ | refine s_ag_f ?_ | refine s_alt ?_ | refine p_alt ?_ ?_) | (with_reducible first | refine n_then ?_ | refine r_then ?_ | refine e_then ?_ | refine n_block ?_ | refine r_block ?_ | refine e_block_eq (by with_unfolding_all rfl) ?_ | refine e_block_ne (by with_unfolding_all rfl) ?_ | (refine g_stand ?_; first | refine s_stand ?_ | refine s_standL ?_)) | ((with_reducible first | refine s_g_c ?_ ?_ | refine s_cond_c ?_ ?_ | refine s_tg_c ?_ ?_ | refine s_ag_c ?_ ?_) <;> intro hb <;> rw [hb] <;> (try simp only [decide_eq_true_eq, decide_eq_false_iff_not, beq_iff_eq, bne_iff_ne, beq_eq_false_iff_ne, bne_eq_false_iff_eq, ne_eq, Int.not_lt, Int.not_le, gt_iff_lt, ge_iff_le, Bool.not_eq_true', Bool.not_eq_false'] at hb)) | ((with_reducible first | refine s_ret ?_ | refine s_normal ?_); try simp only [x_tup0, x_tup1, x_tup2, x_tup3, x_tup4, x_tup5, and_true, true_and])))
      refine o_appendO (by with_unfolding_all rfl) (by with_unfolding_all rfl) ho (Sl.le hus hle) (cells1_bytes _) rfl hle (by rw [hw1, By.len hus]; omega) ?_
      intro v G2 q1 q2 q3 q4 q5
      have q2 : Own 1 G G2 v ((tkC bs).map bv) := by simpa using q2
      obtain ⟨a, n, c, rfl⟩ := q2.shape
      (repeat' (first | (with_reducible refine i_ops ?_; first | (refine g_mv ?_; refine s_mv ?_) | refine o_nil ?_ | (refine g_some ?_; first | refine s_g_t ?_ | refine s_g_f ?_ | refine s_g_f' ?_ | refine s_g_u ?_) | (refine g_pick ?_; first | refine s_pick_t ?_ | refine s_pick_f ?_) | (refine g_len ?_; first | refine s_lenB ?_ | refine s_pure ?_) | (refine g_idx ?_; first | (refine s_idxOB ?_; intro p hp hpw) | (refine s_idxB ?_; intro p hp)) | (refine g_slc ?_; ((first | refine s_slcB ?_ | refine s_slcB01 ?_ | refine s_slcB10 ?_); intro us hus hbs)) | (refine g_build ?_; first | refine s_build ?_ | refine s_buildP ?_) | (refine g_pure ?_; first | refine s_pure ?_ | refine s_saddB ?_) | (refine g_lstore ?_; first | refine s_lstoreA ?_ | refine s_lstore ?_) | (refine g_lalloc ?_; refine s_lalloc ?_) | (refine g_hload ?_; refine s_hloadP ?_)) | (with_reducible refine i_vc ?_; first | refine v_seq ?_ | refine v_ops ?_ | (refine g_cond ?_; first | refine s_cond_t ?_ | refine s_cond_f ?_) | refine v_block ?_ | refine v_skip ?_ | refine v_exit ?_ | refine v_ret ?_ | refine s_drawl ?_ | refine v_draw0 ?_) | (with_reducible refine i_plan ?_; first | refine p_done ?_ | refine s_pre ?_ | refine s_preN ?_ | refine s_ag_t ?_ | refine s_ag_f ?_ | refine s_alt ?_ | refine p_alt ?_ ?_) | (with_reducible first | refine n_then ?_ | refine r_then ?_ | refine e_then ?_ | refine n_block ?_ | refine r_block ?_ | refine e_block_eq (by with_unfolding_all rfl) ?_ | refine e_block_ne (by with_unfolding_all rfl) ?_ | (refine g_stand ?_; first | refine s_stand ?_ | refine s_standL ?_)) | ((with_reducible first | refine s_g_c ?_ ?_ | refine s_cond_c ?_ ?_ | refine s_tg_c ?_ ?_ | refine s_ag_c ?_ ?_) <;> intro hb <;> rw [hb] <;> (try simp only [decide_eq_true_eq, decide_eq_false_iff_not, beq_iff_eq, bne_iff_ne, beq_eq_false_iff_ne, bne_eq_false_iff_eq, ne_eq, Int.not_lt, Int.not_le, gt_iff_lt, ge_iff_le, Bool.not_eq_true', Bool.not_eq_false'] at hb)) | ((with_reducible first | refine s_ret ?_ | refine s_normal ?_); try simp only [x_tup0, x_tup1, x_tup2, x_tup3, x_tup4, x_tup5, and_true, true_and])))
      have ht := tk_ok hE0 (by rw [hF, hN]; omega) q1 q2
      rw [hF, hN] at ht
      exact ht
  all_goals
    have h128 : ((bs.getD 1 0).toNat : Int) < 128 := by omega
    have l0 : ¬ bs.length = 0 := by omega
    have l1 : ¬ bs.length = 1 := by omega
    have htg : tagP ((bs.getD 0 0).toNat : Int) := by assumption
    have hE0 : hdrE bs = 0 := by
      unfold hdrE; simp only [byt]
      rw [if_neg l0, if_neg (not_not_intro htg), if_neg l1, if_pos h128]
    have hF : hdrF bs = 2 := by unfold hdrF byt; rw [if_pos h128]
    have hN : hdrN bs = ((bs.getD 1 0).toNat : Int) := by unfold hdrN byt; rw [if_pos h128]
  · exact tk_short hE0 (by rw [hF, hN]; omega)
  · have hc := tkC_len hE0
    have ec := tkC_eq hE0
    rw [hF, hN] at ec
    rw [ec] at hus
    refine o_bsliceB [] (by with_unfolding_all rfl) rfl rfl rfl rfl rfl ?_; intro w1 G1 hle ho hw1
    (repeat' (first | (with_reducible refine i_ops ?_; first | (refine g_mv ?_; refine s_mv ?_) | refine o_nil ?_ | (refine g_some ?_; first | refine s_g_t ?_ | refine s_g_f ?_ | refine s_g_f' ?_ | refine s_g_u ?_) | (refine g_pick ?_; first | refine s_pick_t ?_ | refine s_pick_f ?_) | (refine g_len ?_; first | refine s_lenB ?_ | refine s_pure ?_) | (refine g_idx ?_; first | (refine s_idxOB ?_; intro p hp hpw) | (refine s_idxB ?_; intro p hp)) | (refine g_slc ?_; ((first | refine s_slcB ?_ | refine s_slcB01 ?_ | refine s_slcB10 ?_); intro us hus hbs)) | (refine g_build ?_; first | refine s_build ?_ | refine s_buildP ?_) | (refine g_pure ?_; first | refine s_pure ?_ | refine s_saddB ?_) | (refine g_lstore ?_; first | refine s_lstoreA ?_ | refine s_lstore ?_) | (refine g_lalloc ?_; refine s_lalloc ?_) | (refine g_hload ?_; refine s_hloadP ?_)) | (with_reducible refine i_vc ?_; first | refine v_seq ?_ | refine v_ops ?_ | (refine g_cond ?_; first | refine s_cond_t ?_ | refine s_cond_f ?_) | refine v_block ?_ | refine v_skip ?_ | refine v_exit ?_ | refine v_ret ?_ | refine s_drawl ?_ | refine v_draw0 ?_) | (with_reducible refine i_plan ?_; first | refine p_done ?_ | refine s_pre ?_ | refine s_preN ?_ | refine s_ag_t ?_ | refine s_ag_f ?_ | refine s_alt ?_ | refine p_alt ?_ ?_) | (with_reducible first | refine n_then ?_ | refine r_then ?_ | refine e_then ?_ | refine n_block ?_ | refine r_block ?_ | refine e_block_eq (by with_unfolding_all rfl) ?_ | refine e_block_ne (by with_unfolding_all rfl) ?_ | (refine g_stand ?_; first | refine s_stand ?_ | refine s_standL ?_)) | ((with_reducible first | refine s_g_c ?_ ?_ | refine s_cond_c ?_ ?_ | refine s_tg_c ?_ ?_ | refine s_ag_c ?_ ?_) <;> intro hb <;> rw [hb] <;> (try simp only [decide_eq_true_eq, decide_eq_false_iff_not, beq_iff_eq, bne_iff_ne, beq_eq_false_iff_ne, bne_eq_false_iff_eq, ne_eq, Int.not_lt, Int.not_le, gt_iff_lt, ge_iff_le, Bool.not_eq_true', Bool.not_eq_false'] at hb)) | ((with_reducible first | refine s_ret ?_ | refine s_normal ?_); try simp only [x_tup0, x_tup1, x_tup2, x_tup3, x_tup4, x_tup5, and_true, true_and])))
    refine o_appendO (by with_unfolding_all rfl) (by with_unfolding_all rfl) ho (Sl.le hus hle) (cells1_bytes _) rfl hle (by rw [hw1, By.len hus]; omega) ?_
    intro v G2 q1 q2 q3 q4 q5
    have q2 : Own 1 G G2 v ((tkC bs).map bv) := by simpa using q2
    obtain ⟨a, n, c, rfl⟩ := q2.shape
    (repeat' (first | (with_reducible refine i_ops ?_; first | (refine g_mv ?_; refine s_mv ?_) | refine o_nil ?_ | (refine g_some ?_; first | refine s_g_t ?_ | refine s_g_f ?_ | refine s_g_f' ?_ | refine s_g_u ?_) | (refine g_pick ?_; first | refine s_pick_t ?_ | refine s_pick_f ?_) | (refine g_len ?_; first | refine s_lenB ?_ | refine s_pure ?_) | (refine g_idx ?_; first | (refine s_idxOB ?_; intro p hp hpw) | (refine s_idxB ?_; intro p hp)) | (refine g_slc ?_; ((first | refine s_slcB ?_ | refine s_slcB01 ?_ | refine s_slcB10 ?_); intro us hus hbs)) | (refine g_build ?_; first | refine s_build ?_ | refine s_buildP ?_) | (refine g_pure ?_; first | refine s_pure ?_ | refine s_saddB ?_) | (refine g_lstore ?_; first | refine s_lstoreA ?_ | refine s_lstore ?_) | (refine g_lalloc ?_; refine s_lalloc ?_) | (refine g_hload ?_; refine s_hloadP ?_)) | (with_reducible refine i_vc ?_; first | refine v_seq ?_ | refine v_ops ?_ | (refine g_cond ?_; first | refine s_cond_t ?_ | refine s_cond_f ?_) | refine v_block ?_ | refine v_skip ?_ | refine v_exit ?_ | refine v_ret ?_ | refine s_drawl ?_ | refine v_draw0 ?_) | (with_reducible refine i_plan ?_; first | refine p_done ?_ | refine s_pre ?_ | refine s_preN ?_ | refine s_ag_t ?_ | refine s_ag_f ?_ | refine s_alt ?_ | refine p_alt ?_ ?_) | (with_reducible first | refine n_then ?_ | refine r_then ?_ | refine e_then ?_ | refine n_block ?_ | refine r_block ?_ | refine e_block_eq (by with_unfolding_all rfl) ?_ | refine e_block_ne (by with_unfolding_all rfl) ?_ | (refine g_stand ?_; first | refine s_stand ?_ | refine s_standL ?_)) | ((with_reducible first | refine s_g_c ?_ ?_ | refine s_cond_c ?_ ?_ | refine s_tg_c ?_ ?_ | refine s_ag_c ?_ ?_) <;> intro hb <;> rw [hb] <;> (try simp only [decide_eq_true_eq, decide_eq_false_iff_not, beq_iff_eq, bne_iff_ne, beq_eq_false_iff_ne, bne_eq_false_iff_eq, ne_eq, Int.not_lt, Int.not_le, gt_iff_lt, ge_iff_le, Bool.not_eq_true', Bool.not_eq_false'] at hb)) | ((with_reducible first | refine s_ret ?_ | refine s_normal ?_); try simp only [x_tup0, x_tup1, x_tup2, x_tup3, x_tup4, x_tup5, and_true, true_and])))
    have ht := tk_ok hE0 (by rw [hF, hN]; omega) q1 q2
    rw [hF, hN] at ht
    exact ht
end Go.Proofs.Ytkidjjnmdpbcaaa.V
