/- A slip is taken, by the document; SlipTakes. -/
import Derived.Test.YtnddanaangolgaaPrF
set_option linter.unusedSimpArgs false
set_option linter.unusedVariables false
namespace Go.Proofs.Ytnddanaangolgaa.V
open Go.RowKit Go.ChangeShapes Go.WideShapes
theorem pre_eq {bs : List UInt8} (h : 7 + slN bs ≤ bs.length) : preB (byt bs 0) (slD bs) = bs.take (3 + slN bs) := by
  match bs, h with
  | [], h => simp at h <;> omega
  | [_], h => simp at h <;> omega
  | [_, _], h => simp at h <;> omega
  | x0 :: x1 :: x2 :: r, h =>
    have hn : slN (x0 :: x1 :: x2 :: r) = x1.toNat + 256 * x2.toNat := rfl
    have hl : (slD (x0 :: x1 :: x2 :: r)).length = slN (x0 :: x1 :: x2 :: r) := by
      unfold slD; rw [List.length_take, List.length_drop]; omega
    have b1 := x1.toNat_lt
    have b2 := x2.toNat_lt
    have e0 : UInt8.ofInt (byt (x0 :: x1 :: x2 :: r) 0) = x0 := by
      show UInt8.ofInt (x0.toNat : Int) = x0
      rw [ofInt_nat]; simp
    have e1 : UInt8.ofInt ((slN (x0 :: x1 :: x2 :: r) : Int) % 256) = x1 := by
      rw [show ((slN (x0 :: x1 :: x2 :: r) : Int) % 256) = (x1.toNat : Int) by omega, ofInt_nat]; simp
    have e2 : UInt8.ofInt ((slN (x0 :: x1 :: x2 :: r) : Int) / 256) = x2 := by
      rw [show ((slN (x0 :: x1 :: x2 :: r) : Int) / 256) = (x2.toNat : Int) by omega, ofInt_nat]; simp
    unfold preB
    rw [hl, e0, e1, e2, show 3 + slN (x0 :: x1 :: x2 :: r) = slN (x0 :: x1 :: x2 :: r) + 1 + 1 + 1 by omega, List.take_succ_cons, List.take_succ_cons, List.take_succ_cons]
    rfl
theorem take_split (bs : List UInt8) (m : Nat) : bs.take (7 + m) = bs.take (3 + m) ++ (bs.drop (3 + m)).take 4 := by
  rw [show 7 + m = (3 + m) + 4 by omega, List.take_add]
def sndN : Nat → PC → PC
  | 0, p => p
  | n + 1, .seq _ b => sndN n b
  | _, p => p
theorem tail19 (u w : Value) (bs : List UInt8) (G0 G : GH) (sl : Nat → Value) (ll : Nat → Array Value) (hle : G0.le G) (h : By G u bs) (hw : Own 1 G0 G w ((slD bs).map bv)) (hl : 7 + slN bs ≤ bs.length) :
    vc Try.prog E19 (sndN 5 pc19) (endQ [.loc 2 2 2, .slot 3, .slot 4] fun v G' => TakeR bs G0 v G') (S (SL.sets sl [(0, u), (2, .int .u64 0), (5, .int .i64 (slN bs)), (6, .int .u64 0)]) (AL.sets ll [(2, #[.int .i64 0, .slice none 0 0]), (6, #[.int .i64 (byt bs 0), w])]) G) := by
  obtain ⟨a, n, c, rfl⟩ := hw.shape
  have hnl := slN_le bs
  have hll := By.len_le h
  have hDl : (slD bs).length ≤ 65535 := by unfold slD; rw [List.length_take]; omega
  have hsB : slipB (byt bs 0) (slD bs) = bs.take (3 + slN bs) ++ leB (sumB (bs.take (3 + slN bs))) 4 := by unfold slipB; rw [pre_eq hl]
  have x0 := lt8 (bs.getD 0 0)
  unfold pc19
  simp only [sndN, SL.sets, AL.sets]
  (repeat' (first | (with_reducible refine i_ops ?_; first | (refine g_mv ?_; refine s_mv ?_) | refine o_nil ?_ | (refine g_len ?_; first | refine s_lenB ?_ | refine s_pure ?_) | (refine g_idx ?_; first | (refine s_idxOB ?_; intro p hp hpw) | (refine s_idxB ?_; intro p hp)) | (refine g_slc ?_; ((first | refine s_slcB ?_ | refine s_slcB01 ?_ | refine s_slcB10 ?_); intro us hus hbs)) | (refine g_build ?_; first | refine s_build ?_ | refine s_buildP ?_) | (refine g_pure ?_; first | refine s_pure ?_ | refine s_saddB ?_) | (refine g_lload ?_; refine s_lload ?_) | (refine g_lstore ?_; first | refine s_lstoreA ?_ | refine s_lstore ?_) | (refine g_lalloc ?_; refine s_lalloc ?_) | (refine g_hload ?_; refine s_hloadP ?_) | (refine g_b2s ?_; refine s_b2sB ?_)) | (with_reducible refine i_vc ?_; first | refine v_seq ?_ | refine v_ops ?_ | (refine g_cond ?_; first | refine s_cond_t ?_ | refine s_cond_f ?_) | refine v_skip ?_ | refine v_ret ?_ | refine s_drawl ?_ | refine v_draw0 ?_) | (with_reducible refine i_plan ?_; first | refine p_done ?_ | refine s_pre ?_ | refine s_preN ?_ | refine s_ag_t ?_ | refine s_ag_f ?_ | refine s_alt ?_ | refine p_alt ?_ ?_) | (with_reducible first | refine n_then ?_ | refine r_then ?_ | refine e_then ?_ | (refine g_stand ?_; first | refine s_stand ?_ | refine s_standL ?_)) | ((with_reducible first | refine s_cond_c ?_ ?_) <;> intro hb <;> rw [hb] <;> (try simp only [decide_eq_true_eq, decide_eq_false_iff_not, beq_iff_eq, bne_iff_ne, beq_eq_false_iff_ne, bne_eq_false_iff_eq, ne_eq, Int.not_lt, Int.not_le, gt_iff_lt, ge_iff_le, Bool.not_eq_true', Bool.not_eq_false'] at hb)) | ((with_reducible first | refine s_ret ?_ | refine s_normal ?_); try simp only [x_tup0, x_tup1, x_tup2, x_tup3, x_tup4, x_tup5, and_true, true_and])))
  have eA : List.take ((7 : Int) + slN bs).toNat bs = bs.take (3 + slN bs) ++ (bs.drop (3 + slN bs)).take 4 := by rw [← take_split]; congr 1
  refine o_callc (by with_unfolding_all rfl) (bytes30 (byt bs 0) _ (slD bs) G hw.sl hDl) ?_
  rintro w2 G2 ⟨hle2, ho2⟩
  rw [hsB] at ho2
  rw [eA] at *
  have hb2 : By G2 w2 (bs.take (3 + slN bs) ++ leB (sumB (bs.take (3 + slN bs))) 4) := ho2.sl
  have hw2 := hw.le hle2
  by_cases heq : leB (sumB (bs.take (3 + slN bs))) 4 = (bs.drop (3 + slN bs)).take 4
  · rw [heq] at hb2
    (repeat' (first | (with_reducible refine i_ops ?_; first | (refine g_mv ?_; refine s_mv ?_) | refine o_nil ?_ | (refine g_len ?_; first | refine s_lenB ?_ | refine s_pure ?_) | (refine g_idx ?_; first | (refine s_idxOB ?_; intro p hp hpw) | (refine s_idxB ?_; intro p hp)) | (refine g_slc ?_; ((first | refine s_slcB ?_ | refine s_slcB01 ?_ | refine s_slcB10 ?_); intro us hus hbs)) | (refine g_build ?_; first | refine s_build ?_ | refine s_buildP ?_) | (refine g_pure ?_; first | refine s_pure ?_ | refine s_saddB ?_) | (refine g_lload ?_; refine s_lload ?_) | (refine g_lstore ?_; first | refine s_lstoreA ?_ | refine s_lstore ?_) | (refine g_lalloc ?_; refine s_lalloc ?_) | (refine g_hload ?_; refine s_hloadP ?_) | (refine g_b2s ?_; refine s_b2sB ?_)) | (with_reducible refine i_vc ?_; first | refine v_seq ?_ | refine v_ops ?_ | (refine g_cond ?_; first | refine s_cond_t ?_ | refine s_cond_f ?_) | refine v_skip ?_ | refine v_ret ?_ | refine s_drawl ?_ | refine v_draw0 ?_) | (with_reducible refine i_plan ?_; first | refine p_done ?_ | refine s_pre ?_ | refine s_preN ?_ | refine s_ag_t ?_ | refine s_ag_f ?_ | refine s_alt ?_ | refine p_alt ?_ ?_) | (with_reducible first | refine n_then ?_ | refine r_then ?_ | refine e_then ?_ | (refine g_stand ?_; first | refine s_stand ?_ | refine s_standL ?_)) | ((with_reducible first | refine s_cond_c ?_ ?_) <;> intro hb <;> rw [hb] <;> (try simp only [decide_eq_true_eq, decide_eq_false_iff_not, beq_iff_eq, bne_iff_ne, beq_eq_false_iff_ne, bne_eq_false_iff_eq, ne_eq, Int.not_lt, Int.not_le, gt_iff_lt, ge_iff_le, Bool.not_eq_true', Bool.not_eq_false'] at hb)) | ((with_reducible first | refine s_ret ?_ | refine s_normal ?_); try simp only [x_tup0, x_tup1, x_tup2, x_tup3, x_tup4, x_tup5, and_true, true_and])))
    all_goals first | (exfalso; omega) | skip
    refine ⟨GH.le_trans hle hle2, .inr ⟨by unfold slE; rw [if_neg (by omega), if_neg (by omega), if_neg (not_not_intro heq)], _, hw2, rfl⟩⟩
  · have hne : ¬ (bs.take (3 + slN bs) ++ leB (sumB (bs.take (3 + slN bs))) 4 = bs.take (3 + slN bs) ++ (bs.drop (3 + slN bs)).take 4) := fun e => heq (List.append_cancel_left e)
    (repeat' (first | (with_reducible refine i_ops ?_; first | (refine g_mv ?_; refine s_mv ?_) | refine o_nil ?_ | (refine g_len ?_; first | refine s_lenB ?_ | refine s_pure ?_) | (refine g_idx ?_; first | (refine s_idxOB ?_; intro p hp hpw) | (refine s_idxB ?_; intro p hp)) | (refine g_slc ?_; ((first | refine s_slcB ?_ | refine s_slcB01 ?_ | refine s_slcB10 ?_); intro us hus hbs)) | (refine g_build ?_; first | refine s_build ?_ | refine s_buildP ?_) | (refine g_pure ?_; first | refine s_pure ?_ | refine s_saddB ?_) | (refine g_lload ?_; refine s_lload ?_) | (refine g_lstore ?_; first | refine s_lstoreA ?_ | refine s_lstore ?_) | (refine g_lalloc ?_; refine s_lalloc ?_) | (refine g_hload ?_; refine s_hloadP ?_) | (refine g_b2s ?_; refine s_b2sB ?_)) | (with_reducible refine i_vc ?_; first | refine v_seq ?_ | refine v_ops ?_ | (refine g_cond ?_; first | refine s_cond_t ?_ | refine s_cond_f ?_) | refine v_skip ?_ | refine v_ret ?_ | refine s_drawl ?_ | refine v_draw0 ?_) | (with_reducible refine i_plan ?_; first | refine p_done ?_ | refine s_pre ?_ | refine s_preN ?_ | refine s_ag_t ?_ | refine s_ag_f ?_ | refine s_alt ?_ | refine p_alt ?_ ?_) | (with_reducible first | refine n_then ?_ | refine r_then ?_ | refine e_then ?_ | (refine g_stand ?_; first | refine s_stand ?_ | refine s_standL ?_)) | ((with_reducible first | refine s_cond_c ?_ ?_) <;> intro hb <;> rw [hb] <;> (try simp only [decide_eq_true_eq, decide_eq_false_iff_not, beq_iff_eq, bne_iff_ne, beq_eq_false_iff_ne, bne_eq_false_iff_eq, ne_eq, Int.not_lt, Int.not_le, gt_iff_lt, ge_iff_le, Bool.not_eq_true', Bool.not_eq_false'] at hb)) | ((with_reducible first | refine s_ret ?_ | refine s_normal ?_); try simp only [x_tup0, x_tup1, x_tup2, x_tup3, x_tup4, x_tup5, and_true, true_and])))
    all_goals first | exact absurd hb hne | skip
    exact tk_err (by unfold slE; rw [if_neg (by omega), if_neg (by omega), if_pos heq]) (by decide) (GH.le_trans hle hle2)
theorem take19 (u : Value) (bs : List UInt8) (G : GH) (h : By G u bs) : HC Try.prog 19 #[u] G fun v G' => TakeR bs G v G' := by
  have hl := By.len_le h
  have x1 := lt8 (bs.getD 1 0)
  have x2 := lt8 (bs.getD 2 0)
  have x0 := lt8 (bs.getD 0 0)
  have hn : slN bs = (bs.getD 1 0).toNat + 256 * (bs.getD 2 0).toNat := rfl
  have hnl := slN_le bs
  have hT := fun w G' sl ll => tail19 u w bs G G' sl ll
  unfold pc19 at hT
  simp only [sndN, SL.sets, AL.sets] at hT
  refine HC.start comp19 rfl ?_; unfold pc19
  (repeat' (first | (with_reducible refine i_ops ?_; first | (refine g_mv ?_; refine s_mv ?_) | refine o_nil ?_ | (refine g_len ?_; first | refine s_lenB ?_ | refine s_pure ?_) | (refine g_idx ?_; first | (refine s_idxOB ?_; intro p hp hpw) | (refine s_idxB ?_; intro p hp)) | (refine g_slc ?_; ((first | refine s_slcB ?_ | refine s_slcB01 ?_ | refine s_slcB10 ?_); intro us hus hbs)) | (refine g_build ?_; first | refine s_build ?_ | refine s_buildP ?_) | (refine g_pure ?_; first | refine s_pure ?_ | refine s_saddB ?_) | (refine g_lload ?_; refine s_lload ?_) | (refine g_lstore ?_; first | refine s_lstoreA ?_ | refine s_lstore ?_) | (refine g_lalloc ?_; refine s_lalloc ?_) | (refine g_hload ?_; refine s_hloadP ?_) | (refine g_b2s ?_; refine s_b2sB ?_)) | (with_reducible refine i_vc ?_; first | refine v_seq ?_ | refine v_ops ?_ | (refine g_cond ?_; first | refine s_cond_t ?_ | refine s_cond_f ?_) | refine v_skip ?_ | refine v_ret ?_ | refine s_drawl ?_ | refine v_draw0 ?_) | (with_reducible refine i_plan ?_; first | refine p_done ?_ | refine s_pre ?_ | refine s_preN ?_ | refine s_ag_t ?_ | refine s_ag_f ?_ | refine s_alt ?_ | refine p_alt ?_ ?_) | (with_reducible first | refine n_then ?_ | refine r_then ?_ | refine e_then ?_ | (refine g_stand ?_; first | refine s_stand ?_ | refine s_standL ?_)) | ((with_reducible first | refine s_cond_c ?_ ?_) <;> intro hb <;> rw [hb] <;> (try simp only [decide_eq_true_eq, decide_eq_false_iff_not, beq_iff_eq, bne_iff_ne, beq_eq_false_iff_ne, bne_eq_false_iff_eq, ne_eq, Int.not_lt, Int.not_le, gt_iff_lt, ge_iff_le, Bool.not_eq_true', Bool.not_eq_false'] at hb)) | ((with_reducible first | refine s_ret ?_ | refine s_normal ?_); try simp only [x_tup0, x_tup1, x_tup2, x_tup3, x_tup4, x_tup5, and_true, true_and])))
  · exact tk_err (by unfold slE; rw [if_pos (by omega)]) (by decide) (GH.le_refl _)
  · exact tk_err (by unfold slE; rw [if_neg (by omega), if_pos (by omega)]) (by decide) (GH.le_refl _)
  all_goals
    have hge : 7 + slN bs ≤ bs.length := by omega
    have hDl : (slD bs).length ≤ 65535 := by unfold slD; rw [List.length_take]; omega
    have eC : List.take (((3 : Int) + (((bs.getD 1 0).toNat : Int) + 256 * ((bs.getD 2 0).toNat : Int))).toNat - Int.toNat 3) (List.drop (Int.toNat 3) bs) = slD bs := by
      unfold slD
      rw [show ((3 : Int) + (((bs.getD 1 0).toNat : Int) + 256 * ((bs.getD 2 0).toNat : Int))).toNat - Int.toNat 3 = slN bs by simp only [Int.reduceToNat]; omega]; rfl
    rw [eC] at hus
    generalize hQ : thenQ (vc Try.prog E19 _ _) _ = Q'
    refine o_bsliceB [] (by with_unfolding_all rfl) rfl rfl rfl rfl rfl ?_; intro w1 G1 hle1 ho1 hw1
    have hus1 := hus.le hle1
    (repeat' (first | (with_reducible refine i_ops ?_; first | (refine g_mv ?_; refine s_mv ?_) | refine o_nil ?_ | (refine g_len ?_; first | refine s_lenB ?_ | refine s_pure ?_) | (refine g_idx ?_; first | (refine s_idxOB ?_; intro p hp hpw) | (refine s_idxB ?_; intro p hp)) | (refine g_slc ?_; ((first | refine s_slcB ?_ | refine s_slcB01 ?_ | refine s_slcB10 ?_); intro us hus hbs)) | (refine g_build ?_; first | refine s_build ?_ | refine s_buildP ?_) | (refine g_pure ?_; first | refine s_pure ?_ | refine s_saddB ?_) | (refine g_lload ?_; refine s_lload ?_) | (refine g_lstore ?_; first | refine s_lstoreA ?_ | refine s_lstore ?_) | (refine g_lalloc ?_; refine s_lalloc ?_) | (refine g_hload ?_; refine s_hloadP ?_) | (refine g_b2s ?_; refine s_b2sB ?_)) | (with_reducible refine i_vc ?_; first | refine v_seq ?_ | refine v_ops ?_ | (refine g_cond ?_; first | refine s_cond_t ?_ | refine s_cond_f ?_) | refine v_skip ?_ | refine v_ret ?_ | refine s_drawl ?_ | refine v_draw0 ?_) | (with_reducible refine i_plan ?_; first | refine p_done ?_ | refine s_pre ?_ | refine s_preN ?_ | refine s_ag_t ?_ | refine s_ag_f ?_ | refine s_alt ?_ | refine p_alt ?_ ?_) | (with_reducible first | refine n_then ?_ | refine r_then ?_ | refine e_then ?_ | (refine g_stand ?_; first | refine s_stand ?_ | refine s_standL ?_)) | ((with_reducible first | refine s_cond_c ?_ ?_) <;> intro hb <;> rw [hb] <;> (try simp only [decide_eq_true_eq, decide_eq_false_iff_not, beq_iff_eq, bne_iff_ne, beq_eq_false_iff_ne, bne_eq_false_iff_eq, ne_eq, Int.not_lt, Int.not_le, gt_iff_lt, ge_iff_le, Bool.not_eq_true', Bool.not_eq_false'] at hb)) | ((with_reducible first | refine s_ret ?_ | refine s_normal ?_); try simp only [x_tup0, x_tup1, x_tup2, x_tup3, x_tup4, x_tup5, and_true, true_and])))
    all_goals
      refine o_appendO (by with_unfolding_all rfl) (by with_unfolding_all rfl) ho1 hus1 (cells1_bytes _) rfl hle1 (by rw [hw1, By.len hus1]; omega) ?_
      intro v2 G2 q1 q2 q3 q4 q5
      have q2 : Own 1 G G2 v2 ((slD bs).map bv) := by simpa using q2
      obtain ⟨a2, n2, c2, rfl⟩ := q2.shape
      (repeat' (first | (with_reducible refine i_ops ?_; first | (refine g_mv ?_; refine s_mv ?_) | refine o_nil ?_ | (refine g_len ?_; first | refine s_lenB ?_ | refine s_pure ?_) | (refine g_idx ?_; first | (refine s_idxOB ?_; intro p hp hpw) | (refine s_idxB ?_; intro p hp)) | (refine g_slc ?_; ((first | refine s_slcB ?_ | refine s_slcB01 ?_ | refine s_slcB10 ?_); intro us hus hbs)) | (refine g_build ?_; first | refine s_build ?_ | refine s_buildP ?_) | (refine g_pure ?_; first | refine s_pure ?_ | refine s_saddB ?_) | (refine g_lload ?_; refine s_lload ?_) | (refine g_lstore ?_; first | refine s_lstoreA ?_ | refine s_lstore ?_) | (refine g_lalloc ?_; refine s_lalloc ?_) | (refine g_hload ?_; refine s_hloadP ?_) | (refine g_b2s ?_; refine s_b2sB ?_)) | (with_reducible refine i_vc ?_; first | refine v_seq ?_ | refine v_ops ?_ | (refine g_cond ?_; first | refine s_cond_t ?_ | refine s_cond_f ?_) | refine v_skip ?_ | refine v_ret ?_ | refine s_drawl ?_ | refine v_draw0 ?_) | (with_reducible refine i_plan ?_; first | refine p_done ?_ | refine s_pre ?_ | refine s_preN ?_ | refine s_ag_t ?_ | refine s_ag_f ?_ | refine s_alt ?_ | refine p_alt ?_ ?_) | (with_reducible first | refine n_then ?_ | refine r_then ?_ | refine e_then ?_ | (refine g_stand ?_; first | refine s_stand ?_ | refine s_standL ?_)) | ((with_reducible first | refine s_cond_c ?_ ?_) <;> intro hb <;> rw [hb] <;> (try simp only [decide_eq_true_eq, decide_eq_false_iff_not, beq_iff_eq, bne_iff_ne, beq_eq_false_iff_ne, bne_eq_false_iff_eq, ne_eq, Int.not_lt, Int.not_le, gt_iff_lt, ge_iff_le, Bool.not_eq_true', Bool.not_eq_false'] at hb)) | ((with_reducible first | refine s_ret ?_ | refine s_normal ?_); try simp only [x_tup0, x_tup1, x_tup2, x_tup3, x_tup4, x_tup5, and_true, true_and])))
      subst hQ
      refine n_then ?_
      have e5 : (((bs.getD 1 0).toNat : Int) + 256 * ((bs.getD 2 0).toNat : Int)) = (slN bs : Int) := by omega
      rw [e5]
      refine v_trim [(0, u), (2, .int .u64 0), (5, .int .i64 (slN bs)), (6, .int .u64 0)] [(2, #[.int .i64 0, .slice none 0 0]), (6, _)] (by refine ⟨SL.get_fn (by with_unfolding_all rfl), SL.get_fn (by with_unfolding_all rfl), SL.get_fn (by with_unfolding_all rfl), SL.get_fn (by with_unfolding_all rfl), trivial⟩) (by exact ⟨AL.get_fn (by with_unfolding_all rfl), AL.get_fn (by with_unfolding_all rfl), trivial⟩) ?_
      intro s l
      exact hT _ G2 s l q1 (Sl.le h q1) q2 hge
end Go.Proofs.Ytnddanaangolgaa.V
