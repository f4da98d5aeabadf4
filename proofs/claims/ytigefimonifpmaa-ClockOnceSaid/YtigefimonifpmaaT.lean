/- A content is read as a time: both ways. -/
import Derived.Test.YtigefimonifpmaaR
set_option linter.unusedSimpArgs false
set_option linter.unusedVariables false
namespace Go.Proofs.Ytigefimonifpmaa.V
open Go.RowKit Go.ChangeShapes Go.WideShapes
theorem dig_sub {bs : List UInt8} {n a k : Nat} (h : dig10 (bs.take n)) (hn : n ≤ bs.length) (hk : a + k ≤ n) : dig10 ((bs.drop a).take k) := by
  intro i hi
  rw [List.length_take, List.length_drop] at hi
  have h1 := h (a + i) (by rw [List.length_take]; omega)
  have e : (bs.take n).getD (a + i) 0 = ((bs.drop a).take k).getD i 0 := by
    simp only [List.getD_eq_getElem?_getD, List.getElem?_take, List.getElem?_drop]
    rw [if_pos (by omega), if_pos (by omega)]
  rw [e] at h1; exact h1
theorem tE_11 {tag : Int} {bs : List UInt8} (ht : ¬ (tag = 23 ∨ tag = 24)) : Value.tuple #[.int .i64 0, .int .i64 11] = .tuple #[.int .i64 (tV tag bs), .int .i64 (tE tag bs)] := by
  have e : tE tag bs = 11 := by unfold tE; rw [if_pos ht]
  have e' : tV tag bs = 0 := by unfold tV; rw [if_neg (by omega)]
  rw [e, e']
theorem tE_20 {tag : Int} {bs : List UInt8} (ht : tag = 23 ∨ tag = 24) (h : (bs.length ≠ kOf tag + 11 ∨ ((bs.getD (kOf tag + 10) 0).toNat : Int) ≠ 90) ∨ ¬ dig10 (bs.take (kOf tag + 10))) : Value.tuple #[.int .i64 0, .int .i64 20] = .tuple #[.int .i64 (tV tag bs), .int .i64 (tE tag bs)] := by
  have e : tE tag bs = 20 := by
    unfold tE; rw [if_neg (not_not_intro ht)]
    split
    · rfl
    · rcases h with h | h
      · exact absurd h (by assumption)
      · rw [if_pos h]
  have e' : tV tag bs = 0 := by unfold tV; rw [if_neg (by omega)]
  rw [e, e']
theorem tE_fE {tag : Int} {bs : List UInt8} (ht : tag = 23 ∨ tag = 24) (h1 : bs.length = kOf tag + 11) (h2 : ((bs.getD (kOf tag + 10) 0).toNat : Int) = 90) (h3 : dig10 (bs.take (kOf tag + 10))) :
    tE tag bs = fE tag (yrOf tag bs) (fld bs (kOf tag)) (fld bs (kOf tag + 2)) (fld bs (kOf tag + 4)) (fld bs (kOf tag + 6)) (fld bs (kOf tag + 8)) ∧ tV tag bs = fV tag (yrOf tag bs) (fld bs (kOf tag)) (fld bs (kOf tag + 2)) (fld bs (kOf tag + 4)) (fld bs (kOf tag + 6)) (fld bs (kOf tag + 8)) := by
  have e : tE tag bs = fE tag (yrOf tag bs) (fld bs (kOf tag)) (fld bs (kOf tag + 2)) (fld bs (kOf tag + 4)) (fld bs (kOf tag + 6)) (fld bs (kOf tag + 8)) := by
    unfold tE; rw [if_neg (not_not_intro ht), if_neg, if_neg (not_not_intro h3)]
    rintro (h | h)
    · exact h h1
    · exact h h2
  refine ⟨e, ?_⟩
  unfold tV
  split
  · rfl
  · rename_i hne
    rw [e] at hne
    unfold fV; rw [if_neg hne]
set_option maxHeartbeats 1000000 in
theorem tailB (tag y : Int) (k : Nat) (u : Value) (bs : List UInt8) (G : GH) (R : Value → GH → Prop) (sl : Nat → Value) (ll : Nat → Array Value) (h : By G u bs) (hlk : bs.length = k + 11) (hk4 : k ≤ 4) (hD : dig10 (bs.take (k + 10)))
    (hR : R (.tuple #[.int .i64 (fV tag y (fld bs k) (fld bs (k + 2)) (fld bs (k + 4)) (fld bs (k + 6)) (fld bs (k + 8))), .int .i64 (fE tag y (fld bs k) (fld bs (k + 2)) (fld bs (k + 4)) (fld bs (k + 6)) (fld bs (k + 8)))]) G) :
    vc Try.prog E29 (sndN 7 pc29) (endQ [.slot 4, .slot 5] R) (S (SL.sets sl [(0, .int .i64 tag), (1, u), (6, .int .i64 k), (9, .int .i64 y)]) (AL.any ll) G) := by
  have d0 := dig_sub (a := k) (k := 2) hD (by omega) (by omega)
  have d2 := dig_sub (a := k + 2) (k := 2) hD (by omega) (by omega)
  have d4 := dig_sub (a := k + 4) (k := 2) hD (by omega) (by omega)
  have d6 := dig_sub (a := k + 6) (k := 2) hD (by omega) (by omega)
  have d8 := dig_sub (a := k + 8) (k := 2) hD (by omega) (by omega)
  have hl2 (a : Nat) : ((bs.drop a).take 2).length ≤ 4 := by rw [List.length_take]; omega
  clear hD
  have ek2 : (k : Int).toNat = k := by omega
  have e0 : List.take (Int.toNat 2) (List.drop (k : Int).toNat bs) = (bs.drop k).take 2 := by rw [ek2]; rfl
  have e2 : List.take (Int.toNat 4 - Int.toNat 2) (List.drop (Int.toNat 2) (List.drop (k : Int).toNat bs)) = (bs.drop (k + 2)).take 2 := by rw [ek2, List.drop_drop]; rfl
  have e4 : List.take (Int.toNat 6 - Int.toNat 4) (List.drop (Int.toNat 4) (List.drop (k : Int).toNat bs)) = (bs.drop (k + 4)).take 2 := by rw [ek2, List.drop_drop]; rfl
  have e6 : List.take (Int.toNat 8 - Int.toNat 6) (List.drop (Int.toNat 6) (List.drop (k : Int).toNat bs)) = (bs.drop (k + 6)).take 2 := by rw [ek2, List.drop_drop]; rfl
  have e8 : List.take (Int.toNat 10 - Int.toNat 8) (List.drop (Int.toNat 8) (List.drop (k : Int).toNat bs)) = (bs.drop (k + 8)).take 2 := by rw [ek2, List.drop_drop]; rfl
  have l0 : (List.take (Int.toNat 2) (List.drop (k : Int).toNat bs)).length ≤ 4 := by rw [e0]; exact hl2 _
  have f0 : fld bs k = num10 (List.take (Int.toNat 2) (List.drop (k : Int).toNat bs)) := by rw [e0]; rfl
  rw [← e0] at d0
  have l2 : (List.take (Int.toNat 4 - Int.toNat 2) (List.drop (Int.toNat 2) (List.drop (k : Int).toNat bs))).length ≤ 4 := by rw [e2]; exact hl2 _
  have f2 : fld bs (k + 2) = num10 (List.take (Int.toNat 4 - Int.toNat 2) (List.drop (Int.toNat 2) (List.drop (k : Int).toNat bs))) := by rw [e2]; rfl
  rw [← e2] at d2
  have l4 : (List.take (Int.toNat 6 - Int.toNat 4) (List.drop (Int.toNat 4) (List.drop (k : Int).toNat bs))).length ≤ 4 := by rw [e4]; exact hl2 _
  have f4 : fld bs (k + 4) = num10 (List.take (Int.toNat 6 - Int.toNat 4) (List.drop (Int.toNat 4) (List.drop (k : Int).toNat bs))) := by rw [e4]; rfl
  rw [← e4] at d4
  have l6 : (List.take (Int.toNat 8 - Int.toNat 6) (List.drop (Int.toNat 6) (List.drop (k : Int).toNat bs))).length ≤ 4 := by rw [e6]; exact hl2 _
  have f6 : fld bs (k + 6) = num10 (List.take (Int.toNat 8 - Int.toNat 6) (List.drop (Int.toNat 6) (List.drop (k : Int).toNat bs))) := by rw [e6]; rfl
  rw [← e6] at d6
  have l8 : (List.take (Int.toNat 10 - Int.toNat 8) (List.drop (Int.toNat 8) (List.drop (k : Int).toNat bs))).length ≤ 4 := by rw [e8]; exact hl2 _
  have f8 : fld bs (k + 8) = num10 (List.take (Int.toNat 10 - Int.toNat 8) (List.drop (Int.toNat 8) (List.drop (k : Int).toNat bs))) := by rw [e8]; rfl
  rw [← e8] at d8
  rw [f0, f2, f4, f6, f8] at hR
  clear f0 f2 f4 f6 f8 e0 e2 e4 e6 e8 hl2
  unfold pc29
  simp only [sndN, SL.sets, AL.sets]
  (repeat' (first | (with_reducible refine i_ops ?_; first | (refine g_mv ?_; refine s_mv ?_) | refine o_nil ?_ | (refine g_some ?_; first | refine s_g_t ?_ | refine s_g_f ?_ | refine s_g_f' ?_ | refine s_g_u ?_) | (refine g_pick ?_; first | refine s_pick_t ?_ | refine s_pick_f ?_) | (refine g_len ?_; first | refine s_lenB ?_ | refine s_pure ?_) | (refine g_idx ?_; first | (refine s_idxOB ?_; intro p hp hpw) | (refine s_idxB ?_; intro p hp)) | (refine g_slc ?_; ((first | refine s_slcB ?_ | refine s_slcB01 ?_ | refine s_slcB10 ?_); intro us hus hbs)) | (refine g_build ?_; first | refine s_build ?_ | refine s_buildP ?_) | (refine g_pure ?_; first | refine s_pure ?_ | refine s_saddB ?_) | (refine g_lfield ?_; refine s_lfield ?_) | (refine g_lload ?_; refine s_lload ?_) | (refine g_lstore ?_; first | refine s_lstoreA ?_ | refine s_lstore ?_) | (refine g_lindex ?_; refine s_lindex ?_) | (refine g_lalloc ?_; refine s_lalloc ?_) | (refine g_lbox ?_; refine s_lbox ?_) | (refine g_lmove ?_; refine s_lmove ?_) | (refine g_hload ?_; refine s_hloadP ?_) | (refine g_hstore ?_; (refine s_hstoreB ?_; intro G' hle ho hkp)) | (refine g_b2s ?_; refine s_b2sB ?_)) | (with_reducible refine i_vc ?_; first | refine v_seq ?_ | refine v_ops ?_ | (refine g_cond ?_; first | refine s_cond_t ?_ | refine s_cond_f ?_) | refine v_block ?_ | refine v_skip ?_ | refine v_exit ?_ | refine v_ret ?_ | refine s_drawl ?_ | refine v_draw0 ?_ | refine v_scope ?_) | (with_reducible refine i_plan ?_; first | refine p_done ?_ | refine s_pre ?_ | refine s_preN ?_ | refine s_ag_t ?_ | refine s_ag_f ?_ | refine s_alt ?_ | refine p_alt ?_ ?_) | (with_reducible first | refine n_then ?_ | refine r_then ?_ | refine e_then ?_ | refine n_block ?_ | refine r_block ?_ | refine e_block_eq (by with_unfolding_all rfl) ?_ | refine e_block_ne (by with_unfolding_all rfl) ?_ | refine n_scope ?_ | refine r_scope ?_ | refine e_scope ?_ | (refine g_stand ?_; first | refine s_stand ?_ | refine s_standL ?_)) | ((with_reducible first | refine s_g_c ?_ ?_ | refine s_cond_c ?_ ?_ | refine s_tg_c ?_ ?_ | refine s_ag_c ?_ ?_) <;> intro hb <;> rw [hb] <;> (try simp only [decide_eq_true_eq, decide_eq_false_iff_not, beq_iff_eq, bne_iff_ne, beq_eq_false_iff_ne, bne_eq_false_iff_eq, ne_eq, Int.not_lt, Int.not_le, gt_iff_lt, ge_iff_le, Bool.not_eq_true', Bool.not_eq_false'] at hb)) | ((with_reducible first | refine s_ret ?_ | refine s_normal ?_); try simp only [x_tup0, x_tup1, x_tup2, x_tup3, x_tup4, x_tup5, and_true, true_and])))
  all_goals (repeat' (first | (with_reducible refine i_ops ?_; first | (refine g_mv ?_; refine s_mv ?_) | refine o_nil ?_ | (refine g_some ?_; first | refine s_g_t ?_ | refine s_g_f ?_ | refine s_g_f' ?_ | refine s_g_u ?_) | (refine g_pick ?_; first | refine s_pick_t ?_ | refine s_pick_f ?_) | (refine g_len ?_; first | refine s_lenB ?_ | refine s_pure ?_) | (refine g_idx ?_; first | (refine s_idxOB ?_; intro p hp hpw) | (refine s_idxB ?_; intro p hp)) | (refine g_slc ?_; ((first | refine s_slcB ?_ | refine s_slcB01 ?_ | refine s_slcB10 ?_); intro us hus hbs)) | (refine g_build ?_; first | refine s_build ?_ | refine s_buildP ?_) | (refine g_pure ?_; first | refine s_pure ?_ | refine s_saddB ?_) | (refine g_lfield ?_; refine s_lfield ?_) | (refine g_lload ?_; refine s_lload ?_) | (refine g_lstore ?_; first | refine s_lstoreA ?_ | refine s_lstore ?_) | (refine g_lindex ?_; refine s_lindex ?_) | (refine g_lalloc ?_; refine s_lalloc ?_) | (refine g_lbox ?_; refine s_lbox ?_) | (refine g_lmove ?_; refine s_lmove ?_) | (refine g_hload ?_; refine s_hloadP ?_) | (refine g_hstore ?_; (refine s_hstoreB ?_; intro G' hle ho hkp)) | (refine g_b2s ?_; refine s_b2sB ?_) | refine o_callp (by with_unfolding_all rfl) (by first | exact number38 _ _ _ (by assumption) (by assumption) (by assumption)) ?_ | (refine o_callg (by with_unfolding_all rfl) (by first | exact number38 _ _ _ (by assumption) (by assumption) (by assumption)) ?_; intro G' hle)) | (with_reducible refine i_plan ?_; first | refine p_done ?_ | refine s_pre ?_ | refine s_preN ?_ | refine s_ag_t ?_ | refine s_ag_f ?_ | refine p_callp (by with_unfolding_all rfl) (by first | exact number38 _ _ _ (by assumption) (by assumption) (by assumption)) (by first | assumption | exact GH.le_refl _ | ((repeat (first | exact GH.le_refl _ | assumption | refine GH.le_trans ?_ (by assumption))); first | done | fail)) ?_ p_no | (refine p_callg (by with_unfolding_all rfl) (by first | exact number38 _ _ _ (by assumption) (by assumption) (by assumption)) (by first | assumption | exact GH.le_refl _ | ((repeat (first | exact GH.le_refl _ | assumption | refine GH.le_trans ?_ (by assumption))); first | done | fail)) ?_ p_no; intro G' hle) | refine s_alt ?_ | refine p_alt ?_ ?_) | (with_reducible (refine g_stand ?_; first | refine s_stand ?_ | refine s_standL ?_))))
  all_goals
    refine n_then ?_
    refine v_trim [(0, .int .i64 tag), (9, .int .i64 y), (11, .int .u64 0)] [(11, _)] (by refine ⟨SL.get_fn (by with_unfolding_all rfl), SL.get_fn (by with_unfolding_all rfl), SL.get_fn (by with_unfolding_all rfl), trivial⟩) (by exact ⟨AL.get_fn (by with_unfolding_all rfl), trivial⟩) ?_
    intro s l
    exact tail29 tag y _ _ _ _ _ G R s l hR
theorem tailA (tag : Int) (k : Nat) (u : Value) (bs : List UInt8) (G : GH) (R : Value → GH → Prop) (sl : Nat → Value) (ll : Nat → Array Value) (h : By G u bs) (hlk : bs.length = k + 11) (hk : k = kOf tag) (ht : tag = 23 ∨ tag = 24) (hD : dig10 (bs.take (k + 10)))
    (hR : R (.tuple #[.int .i64 (fV tag (yrOf tag bs) (fld bs k) (fld bs (k + 2)) (fld bs (k + 4)) (fld bs (k + 6)) (fld bs (k + 8))), .int .i64 (fE tag (yrOf tag bs) (fld bs k) (fld bs (k + 2)) (fld bs (k + 4)) (fld bs (k + 6)) (fld bs (k + 8)))]) G) :
    vc Try.prog E29 (sndN 5 pc29) (endQ [.slot 4, .slot 5] R) (S (SL.sets sl [(0, .int .i64 tag), (1, u), (6, .int .i64 k)]) (AL.any ll) G) := by
  have hk4 : k ≤ 4 := by rw [hk]; unfold kOf; split <;> omega
  have ek2 : (k : Int).toNat = k := by omega
  have hd0 : dig10 (bs.take k) := by
    have := dig_sub (a := 0) (k := k) hD (by omega) (by omega)
    rwa [List.drop_zero] at this
  have hl4 : (bs.take k).length ≤ 4 := by rw [List.length_take]; omega
  have nn := num10_nn hd0 k (by rw [List.length_take]; omega)
  rw [List.take_take, Nat.min_self] at nn
  have tl := ten_le (i := k) hk4
  have hB := fun y => tailB tag y k u bs G R
  unfold pc29 at hB ⊢
  simp only [sndN, SL.sets, AL.sets] at hB ⊢
  refine v_seq ?_
  generalize hQ : thenQ _ _ = Q'
  (repeat' (first | (with_reducible refine i_ops ?_; first | (refine g_mv ?_; refine s_mv ?_) | refine o_nil ?_ | (refine g_some ?_; first | refine s_g_t ?_ | refine s_g_f ?_ | refine s_g_f' ?_ | refine s_g_u ?_) | (refine g_pick ?_; first | refine s_pick_t ?_ | refine s_pick_f ?_) | (refine g_len ?_; first | refine s_lenB ?_ | refine s_pure ?_) | (refine g_idx ?_; first | (refine s_idxOB ?_; intro p hp hpw) | (refine s_idxB ?_; intro p hp)) | (refine g_slc ?_; ((first | refine s_slcB ?_ | refine s_slcB01 ?_ | refine s_slcB10 ?_); intro us hus hbs)) | (refine g_build ?_; first | refine s_build ?_ | refine s_buildP ?_) | (refine g_pure ?_; first | refine s_pure ?_ | refine s_saddB ?_) | (refine g_lfield ?_; refine s_lfield ?_) | (refine g_lload ?_; refine s_lload ?_) | (refine g_lstore ?_; first | refine s_lstoreA ?_ | refine s_lstore ?_) | (refine g_lindex ?_; refine s_lindex ?_) | (refine g_lalloc ?_; refine s_lalloc ?_) | (refine g_lbox ?_; refine s_lbox ?_) | (refine g_lmove ?_; refine s_lmove ?_) | (refine g_hload ?_; refine s_hloadP ?_) | (refine g_hstore ?_; (refine s_hstoreB ?_; intro G' hle ho hkp)) | (refine g_b2s ?_; refine s_b2sB ?_)) | (with_reducible refine i_vc ?_; first | refine v_seq ?_ | refine v_ops ?_ | (refine g_cond ?_; first | refine s_cond_t ?_ | refine s_cond_f ?_) | refine v_block ?_ | refine v_skip ?_ | refine v_exit ?_ | refine v_ret ?_ | refine s_drawl ?_ | refine v_draw0 ?_ | refine v_scope ?_) | (with_reducible refine i_plan ?_; first | refine p_done ?_ | refine s_pre ?_ | refine s_preN ?_ | refine s_ag_t ?_ | refine s_ag_f ?_ | refine s_alt ?_ | refine p_alt ?_ ?_) | (with_reducible first | refine n_then ?_ | refine r_then ?_ | refine e_then ?_ | refine n_block ?_ | refine r_block ?_ | refine e_block_eq (by with_unfolding_all rfl) ?_ | refine e_block_ne (by with_unfolding_all rfl) ?_ | refine n_scope ?_ | refine r_scope ?_ | refine e_scope ?_ | (refine g_stand ?_; first | refine s_stand ?_ | refine s_standL ?_)) | ((with_reducible first | refine s_g_c ?_ ?_ | refine s_cond_c ?_ ?_ | refine s_tg_c ?_ ?_ | refine s_ag_c ?_ ?_) <;> intro hb <;> rw [hb] <;> (try simp only [decide_eq_true_eq, decide_eq_false_iff_not, beq_iff_eq, bne_iff_ne, beq_eq_false_iff_ne, bne_eq_false_iff_eq, ne_eq, Int.not_lt, Int.not_le, gt_iff_lt, ge_iff_le, Bool.not_eq_true', Bool.not_eq_false'] at hb)) | ((with_reducible first | refine s_ret ?_ | refine s_normal ?_); try simp only [x_tup0, x_tup1, x_tup2, x_tup3, x_tup4, x_tup5, and_true, true_and])))
  rw [ek2] at hus
  refine o_callp (by with_unfolding_all rfl) (number38 us (bs.take k) G hus hd0 hl4) ?_
  (repeat' (first | (with_reducible refine i_ops ?_; first | (refine g_mv ?_; refine s_mv ?_) | refine o_nil ?_ | (refine g_some ?_; first | refine s_g_t ?_ | refine s_g_f ?_ | refine s_g_f' ?_ | refine s_g_u ?_) | (refine g_pick ?_; first | refine s_pick_t ?_ | refine s_pick_f ?_) | (refine g_len ?_; first | refine s_lenB ?_ | refine s_pure ?_) | (refine g_idx ?_; first | (refine s_idxOB ?_; intro p hp hpw) | (refine s_idxB ?_; intro p hp)) | (refine g_slc ?_; ((first | refine s_slcB ?_ | refine s_slcB01 ?_ | refine s_slcB10 ?_); intro us hus hbs)) | (refine g_build ?_; first | refine s_build ?_ | refine s_buildP ?_) | (refine g_pure ?_; first | refine s_pure ?_ | refine s_saddB ?_) | (refine g_lfield ?_; refine s_lfield ?_) | (refine g_lload ?_; refine s_lload ?_) | (refine g_lstore ?_; first | refine s_lstoreA ?_ | refine s_lstore ?_) | (refine g_lindex ?_; refine s_lindex ?_) | (refine g_lalloc ?_; refine s_lalloc ?_) | (refine g_lbox ?_; refine s_lbox ?_) | (refine g_lmove ?_; refine s_lmove ?_) | (refine g_hload ?_; refine s_hloadP ?_) | (refine g_hstore ?_; (refine s_hstoreB ?_; intro G' hle ho hkp)) | (refine g_b2s ?_; refine s_b2sB ?_)) | (with_reducible refine i_vc ?_; first | refine v_seq ?_ | refine v_ops ?_ | (refine g_cond ?_; first | refine s_cond_t ?_ | refine s_cond_f ?_) | refine v_block ?_ | refine v_skip ?_ | refine v_exit ?_ | refine v_ret ?_ | refine s_drawl ?_ | refine v_draw0 ?_ | refine v_scope ?_) | (with_reducible refine i_plan ?_; first | refine p_done ?_ | refine s_pre ?_ | refine s_preN ?_ | refine s_ag_t ?_ | refine s_ag_f ?_ | refine s_alt ?_ | refine p_alt ?_ ?_) | (with_reducible first | refine n_then ?_ | refine r_then ?_ | refine e_then ?_ | refine n_block ?_ | refine r_block ?_ | refine e_block_eq (by with_unfolding_all rfl) ?_ | refine e_block_ne (by with_unfolding_all rfl) ?_ | refine n_scope ?_ | refine r_scope ?_ | refine e_scope ?_ | (refine g_stand ?_; first | refine s_stand ?_ | refine s_standL ?_)) | ((with_reducible first | refine s_g_c ?_ ?_ | refine s_cond_c ?_ ?_ | refine s_tg_c ?_ ?_ | refine s_ag_c ?_ ?_) <;> intro hb <;> rw [hb] <;> (try simp only [decide_eq_true_eq, decide_eq_false_iff_not, beq_iff_eq, bne_iff_ne, beq_eq_false_iff_ne, bne_eq_false_iff_eq, ne_eq, Int.not_lt, Int.not_le, gt_iff_lt, ge_iff_le, Bool.not_eq_true', Bool.not_eq_false'] at hb)) | ((with_reducible first | refine s_ret ?_ | refine s_normal ?_); try simp only [x_tup0, x_tup1, x_tup2, x_tup3, x_tup4, x_tup5, and_true, true_and])))
  subst hQ
  refine n_then ?_
  refine v_seq ?_
  generalize hQ : thenQ _ _ = Q'
  (repeat' (first | (with_reducible refine i_ops ?_; first | (refine g_mv ?_; refine s_mv ?_) | refine o_nil ?_ | (refine g_some ?_; first | refine s_g_t ?_ | refine s_g_f ?_ | refine s_g_f' ?_ | refine s_g_u ?_) | (refine g_pick ?_; first | refine s_pick_t ?_ | refine s_pick_f ?_) | (refine g_len ?_; first | refine s_lenB ?_ | refine s_pure ?_) | (refine g_idx ?_; first | (refine s_idxOB ?_; intro p hp hpw) | (refine s_idxB ?_; intro p hp)) | (refine g_slc ?_; ((first | refine s_slcB ?_ | refine s_slcB01 ?_ | refine s_slcB10 ?_); intro us hus hbs)) | (refine g_build ?_; first | refine s_build ?_ | refine s_buildP ?_) | (refine g_pure ?_; first | refine s_pure ?_ | refine s_saddB ?_) | (refine g_lfield ?_; refine s_lfield ?_) | (refine g_lload ?_; refine s_lload ?_) | (refine g_lstore ?_; first | refine s_lstoreA ?_ | refine s_lstore ?_) | (refine g_lindex ?_; refine s_lindex ?_) | (refine g_lalloc ?_; refine s_lalloc ?_) | (refine g_lbox ?_; refine s_lbox ?_) | (refine g_lmove ?_; refine s_lmove ?_) | (refine g_hload ?_; refine s_hloadP ?_) | (refine g_hstore ?_; (refine s_hstoreB ?_; intro G' hle ho hkp)) | (refine g_b2s ?_; refine s_b2sB ?_)) | (with_reducible refine i_vc ?_; first | refine v_seq ?_ | refine v_ops ?_ | (refine g_cond ?_; first | refine s_cond_t ?_ | refine s_cond_f ?_) | refine v_block ?_ | refine v_skip ?_ | refine v_exit ?_ | refine v_ret ?_ | refine s_drawl ?_ | refine v_draw0 ?_ | refine v_scope ?_) | (with_reducible refine i_plan ?_; first | refine p_done ?_ | refine s_pre ?_ | refine s_preN ?_ | refine s_ag_t ?_ | refine s_ag_f ?_ | refine s_alt ?_ | refine p_alt ?_ ?_) | (with_reducible first | refine n_then ?_ | refine r_then ?_ | refine e_then ?_ | refine n_block ?_ | refine r_block ?_ | refine e_block_eq (by with_unfolding_all rfl) ?_ | refine e_block_ne (by with_unfolding_all rfl) ?_ | refine n_scope ?_ | refine r_scope ?_ | refine e_scope ?_ | (refine g_stand ?_; first | refine s_stand ?_ | refine s_standL ?_)) | ((with_reducible first | refine s_g_c ?_ ?_ | refine s_cond_c ?_ ?_ | refine s_tg_c ?_ ?_ | refine s_ag_c ?_ ?_) <;> intro hb <;> rw [hb] <;> (try simp only [decide_eq_true_eq, decide_eq_false_iff_not, beq_iff_eq, bne_iff_ne, beq_eq_false_iff_ne, bne_eq_false_iff_eq, ne_eq, Int.not_lt, Int.not_le, gt_iff_lt, ge_iff_le, Bool.not_eq_true', Bool.not_eq_false'] at hb)) | ((with_reducible first | refine s_ret ?_ | refine s_normal ?_); try simp only [x_tup0, x_tup1, x_tup2, x_tup3, x_tup4, x_tup5, and_true, true_and])))
  all_goals
    subst hQ
    refine n_then ?_
    refine v_trim [(0, .int .i64 tag), (1, u), (6, .int .i64 k), (9, _)] [] (by refine ⟨SL.get_fn (by with_unfolding_all rfl), SL.get_fn (by with_unfolding_all rfl), SL.get_fn (by with_unfolding_all rfl), SL.get_fn (by with_unfolding_all rfl), trivial⟩) trivial ?_
    intro s l
    refine hB _ s l h hlk hk4 hD ?_
  all_goals clear hB
  all_goals
    have k2 : tag = 23 → bs.take k = bs.take 2 := fun e => by rw [hk]; unfold kOf; rw [if_neg (by omega)]
    have k4 : ¬ tag = 23 → bs.take k = bs.take 4 := fun e => by rw [hk]; unfold kOf; rw [if_pos (by omega)]
  all_goals first
    | (have ey : yrOf tag bs = num10 (bs.take k) + 2000 := by
         have e23 : tag = 23 := by assumption
         rw [k2 e23] at hb ⊢
         unfold yrOf; rw [if_pos e23, if_pos (by omega)]
       rw [ey] at hR; exact hR)
    | (have ey : yrOf tag bs = num10 (bs.take k) + 1900 := by
         have e23 : tag = 23 := by assumption
         have h50 : 50 ≤ num10 (bs.take k) := by assumption
         rw [k2 e23] at h50 ⊢
         unfold yrOf; rw [if_pos e23, if_neg (by omega)]
       rw [ey] at hR; exact hR)
    | (have ey : yrOf tag bs = num10 (bs.take k) := by
         have e23 : ¬ tag = 23 := by assumption
         rw [k4 e23]
         unfold yrOf; rw [if_neg e23]
       rw [ey] at hR; exact hR)
    | (exfalso; omega)
    | skip
theorem take29 (tag : Int) (u : Value) (bs : List UInt8) (G : GH) (h : By G u bs) (h0 : -9223372036854775808 ≤ tag) (h1 : tag ≤ 9223372036854775807) : HC Try.prog 29 #[.int .i64 tag, u] G fun v G' => v = .tuple #[.int .i64 (tV tag bs), .int .i64 (tE tag bs)] ∧ G' = G := by
  have hl := By.len_le h
  by_cases ht : tag = 23 ∨ tag = 24
  · obtain ⟨k, hk, ek, hk2, hk4⟩ : ∃ k : Nat, kOf tag = k ∧ (2 * (tag - 23) + 2 = k) ∧ 2 ≤ k ∧ k ≤ 4 := by
      rcases ht with rfl | rfl
      · exact ⟨2, rfl, rfl, by decide, by decide⟩
      · exact ⟨4, rfl, rfl, by decide, by decide⟩
    have ei : (2 * (tag - 23) + 2 + 10).toNat = k + 10 := by omega
    have hA := fun sl ll => tailA tag k u bs G (fun v G' => v = .tuple #[.int .i64 (tV tag bs), .int .i64 (tE tag bs)] ∧ G' = G) sl ll
    refine HC.start comp29 rfl ?_; unfold pc29
    unfold pc29 at hA
    simp only [sndN, SL.sets] at hA
    (repeat' (first | (with_reducible refine i_ops ?_; first | (refine g_mv ?_; refine s_mv ?_) | refine o_nil ?_ | (refine g_some ?_; first | refine s_g_t ?_ | refine s_g_f ?_ | refine s_g_f' ?_ | refine s_g_u ?_) | (refine g_pick ?_; first | refine s_pick_t ?_ | refine s_pick_f ?_) | (refine g_len ?_; first | refine s_lenB ?_ | refine s_pure ?_) | (refine g_idx ?_; first | (refine s_idxOB ?_; intro p hp hpw) | (refine s_idxB ?_; intro p hp)) | (refine g_slc ?_; ((first | refine s_slcB ?_ | refine s_slcB01 ?_ | refine s_slcB10 ?_); intro us hus hbs)) | (refine g_build ?_; first | refine s_build ?_ | refine s_buildP ?_) | (refine g_pure ?_; first | refine s_pure ?_ | refine s_saddB ?_) | (refine g_lfield ?_; refine s_lfield ?_) | (refine g_lload ?_; refine s_lload ?_) | (refine g_lstore ?_; first | refine s_lstoreA ?_ | refine s_lstore ?_) | (refine g_lindex ?_; refine s_lindex ?_) | (refine g_lalloc ?_; refine s_lalloc ?_) | (refine g_lbox ?_; refine s_lbox ?_) | (refine g_lmove ?_; refine s_lmove ?_) | (refine g_hload ?_; refine s_hloadP ?_) | (refine g_hstore ?_; (refine s_hstoreB ?_; intro G' hle ho hkp)) | (refine g_b2s ?_; refine s_b2sB ?_)) | (with_reducible refine i_vc ?_; first | refine v_seq ?_ | refine v_ops ?_ | (refine g_cond ?_; first | refine s_cond_t ?_ | refine s_cond_f ?_) | refine v_block ?_ | refine v_skip ?_ | refine v_exit ?_ | refine v_ret ?_ | refine s_drawl ?_ | refine v_draw0 ?_ | refine v_scope ?_) | (with_reducible refine i_plan ?_; first | refine p_done ?_ | refine s_pre ?_ | refine s_preN ?_ | refine s_ag_t ?_ | refine s_ag_f ?_ | refine s_alt ?_ | refine p_alt ?_ ?_) | (with_reducible first | refine n_then ?_ | refine r_then ?_ | refine e_then ?_ | refine n_block ?_ | refine r_block ?_ | refine e_block_eq (by with_unfolding_all rfl) ?_ | refine e_block_ne (by with_unfolding_all rfl) ?_ | refine n_scope ?_ | refine r_scope ?_ | refine e_scope ?_ | (refine g_stand ?_; first | refine s_stand ?_ | refine s_standL ?_)) | ((with_reducible first | refine s_g_c ?_ ?_ | refine s_cond_c ?_ ?_ | refine s_tg_c ?_ ?_ | refine s_ag_c ?_ ?_) <;> intro hb <;> rw [hb] <;> (try simp only [decide_eq_true_eq, decide_eq_false_iff_not, beq_iff_eq, bne_iff_ne, beq_eq_false_iff_ne, bne_eq_false_iff_eq, ne_eq, Int.not_lt, Int.not_le, gt_iff_lt, ge_iff_le, Bool.not_eq_true', Bool.not_eq_false'] at hb)) | ((with_reducible first | refine s_ret ?_ | refine s_normal ?_); try simp only [x_tup0, x_tup1, x_tup2, x_tup3, x_tup4, x_tup5, and_true, true_and])))
    all_goals first
      | (exfalso; omega)
      | exact tE_20 ht (.inl (.inl (by omega)))
      | (rw [ei] at hb; exact tE_20 ht (.inl (.inr (by rw [hk]; exact hb))))
      | skip
    all_goals
      have hlk : bs.length = k + 11 := by omega
      have h90 : ((bs.getD (kOf tag + 10) 0).toNat : Int) = 90 := by rw [hk, ← ei]; exact hb
      rw [ei] at hus ⊢
      have hlen : (bs.take (k + 10)).length = k + 10 := by rw [List.length_take]; omega
      generalize hQ : thenQ (vc Try.prog E29 _ _) _ = Q'
      refine v_loopX (α := Nat) (fun i => i ≤ k + 10 ∧ ∀ j, j < i → 48 ≤ (((bs.take (k + 10)).getD j 0).toNat : Int) ∧ (((bs.take (k + 10)).getD j 0).toNat : Int) ≤ 57) (fun i => [(0, .int .i64 tag), (1, u), (6, .int .i64 (2 * (tag - 23) + 2)), (42, us), (43, .int .i64 (bs.take (k + 10)).length), (44, .int .i64 i)]) (fun _ => []) (fun _ => G) (fun i => k + 10 - i) 0
        ⟨Nat.zero_le _, fun j hj => absurd hj (Nat.not_lt_zero j)⟩ (by refine ⟨SL.get_fn (by with_unfolding_all rfl), SL.get_fn (by with_unfolding_all rfl), SL.get_fn (by with_unfolding_all rfl), SL.get_fn (by with_unfolding_all rfl), SL.get_fn (by with_unfolding_all rfl), SL.get_fn (by with_unfolding_all rfl), trivial⟩) trivial rfl ?_
      rintro i s ll ⟨k1, k2⟩
      dsimp only [SL.sets, AL.sets]
      have x0 := lt8 ((bs.take (k + 10)).getD i 0)
      have hnd : ¬ (48 ≤ (((bs.take (k + 10)).getD i 0).toNat : Int) ∧ (((bs.take (k + 10)).getD i 0).toNat : Int) ≤ 57) → i < (bs.take (k + 10)).length → ¬ dig10 (bs.take (kOf tag + 10)) := fun h h' hd => by
        rw [hk] at hd; exact h (hd i h')
      have hDi : k + 10 ≤ i → dig10 (bs.take (k + 10)) := fun hi j hj => k2 j (by omega)
      clear hp
      (repeat' (first | (with_reducible refine i_ops ?_; first | (refine g_mv ?_; refine s_mv ?_) | refine o_nil ?_ | (refine g_some ?_; first | refine s_g_t ?_ | refine s_g_f ?_ | refine s_g_f' ?_ | refine s_g_u ?_) | (refine g_pick ?_; first | refine s_pick_t ?_ | refine s_pick_f ?_) | (refine g_len ?_; first | refine s_lenB ?_ | refine s_pure ?_) | (refine g_idx ?_; first | (refine s_idxOB ?_; intro p hp hpw) | (refine s_idxB ?_; intro p hp)) | (refine g_slc ?_; ((first | refine s_slcB ?_ | refine s_slcB01 ?_ | refine s_slcB10 ?_); intro us hus hbs)) | (refine g_build ?_; first | refine s_build ?_ | refine s_buildP ?_) | (refine g_pure ?_; first | refine s_pure ?_ | refine s_saddB ?_) | (refine g_lfield ?_; refine s_lfield ?_) | (refine g_lload ?_; refine s_lload ?_) | (refine g_lstore ?_; first | refine s_lstoreA ?_ | refine s_lstore ?_) | (refine g_lindex ?_; refine s_lindex ?_) | (refine g_lalloc ?_; refine s_lalloc ?_) | (refine g_lbox ?_; refine s_lbox ?_) | (refine g_lmove ?_; refine s_lmove ?_) | (refine g_hload ?_; refine s_hloadP ?_) | (refine g_hstore ?_; (refine s_hstoreB ?_; intro G' hle ho hkp)) | (refine g_b2s ?_; refine s_b2sB ?_)) | (with_reducible refine i_vc ?_; first | refine v_seq ?_ | refine v_ops ?_ | (refine g_cond ?_; first | refine s_cond_t ?_ | refine s_cond_f ?_) | refine v_block ?_ | refine v_skip ?_ | refine v_exit ?_ | refine v_ret ?_ | refine s_drawl ?_ | refine v_draw0 ?_ | refine v_scope ?_) | (with_reducible refine i_plan ?_; first | refine p_done ?_ | refine s_pre ?_ | refine s_preN ?_ | refine s_ag_t ?_ | refine s_ag_f ?_ | refine s_alt ?_ | refine p_alt ?_ ?_) | (with_reducible first | refine n_then ?_ | refine r_then ?_ | refine e_then ?_ | refine n_block ?_ | refine r_block ?_ | refine e_block_eq (by with_unfolding_all rfl) ?_ | refine e_block_ne (by with_unfolding_all rfl) ?_ | refine n_scope ?_ | refine r_scope ?_ | refine e_scope ?_ | (refine g_stand ?_; first | refine s_stand ?_ | refine s_standL ?_)) | ((with_reducible first | refine s_g_c ?_ ?_ | refine s_cond_c ?_ ?_ | refine s_tg_c ?_ ?_ | refine s_ag_c ?_ ?_) <;> intro hb <;> rw [hb] <;> (try simp only [decide_eq_true_eq, decide_eq_false_iff_not, beq_iff_eq, bne_iff_ne, beq_eq_false_iff_ne, bne_eq_false_iff_eq, ne_eq, Int.not_lt, Int.not_le, gt_iff_lt, ge_iff_le, Bool.not_eq_true', Bool.not_eq_false'] at hb)) | ((with_reducible first | refine s_ret ?_ | refine s_normal ?_); try simp only [x_tup0, x_tup1, x_tup2, x_tup3, x_tup4, x_tup5, and_true, true_and])))
      · subst hQ
        (repeat' (first | (with_reducible refine i_ops ?_; first | (refine g_mv ?_; refine s_mv ?_) | refine o_nil ?_ | (refine g_some ?_; first | refine s_g_t ?_ | refine s_g_f ?_ | refine s_g_f' ?_ | refine s_g_u ?_) | (refine g_pick ?_; first | refine s_pick_t ?_ | refine s_pick_f ?_) | (refine g_len ?_; first | refine s_lenB ?_ | refine s_pure ?_) | (refine g_idx ?_; first | (refine s_idxOB ?_; intro p hp hpw) | (refine s_idxB ?_; intro p hp)) | (refine g_slc ?_; ((first | refine s_slcB ?_ | refine s_slcB01 ?_ | refine s_slcB10 ?_); intro us hus hbs)) | (refine g_build ?_; first | refine s_build ?_ | refine s_buildP ?_) | (refine g_pure ?_; first | refine s_pure ?_ | refine s_saddB ?_) | (refine g_lfield ?_; refine s_lfield ?_) | (refine g_lload ?_; refine s_lload ?_) | (refine g_lstore ?_; first | refine s_lstoreA ?_ | refine s_lstore ?_) | (refine g_lindex ?_; refine s_lindex ?_) | (refine g_lalloc ?_; refine s_lalloc ?_) | (refine g_lbox ?_; refine s_lbox ?_) | (refine g_lmove ?_; refine s_lmove ?_) | (refine g_hload ?_; refine s_hloadP ?_) | (refine g_hstore ?_; (refine s_hstoreB ?_; intro G' hle ho hkp)) | (refine g_b2s ?_; refine s_b2sB ?_)) | (with_reducible refine i_vc ?_; first | refine v_seq ?_ | refine v_ops ?_ | (refine g_cond ?_; first | refine s_cond_t ?_ | refine s_cond_f ?_) | refine v_block ?_ | refine v_skip ?_ | refine v_exit ?_ | refine v_ret ?_ | refine s_drawl ?_ | refine v_draw0 ?_ | refine v_scope ?_) | (with_reducible refine i_plan ?_; first | refine p_done ?_ | refine s_pre ?_ | refine s_preN ?_ | refine s_ag_t ?_ | refine s_ag_f ?_ | refine s_alt ?_ | refine p_alt ?_ ?_) | (with_reducible first | refine n_then ?_ | refine r_then ?_ | refine e_then ?_ | refine n_block ?_ | refine r_block ?_ | refine e_block_eq (by with_unfolding_all rfl) ?_ | refine e_block_ne (by with_unfolding_all rfl) ?_ | refine n_scope ?_ | refine r_scope ?_ | refine e_scope ?_ | (refine g_stand ?_; first | refine s_stand ?_ | refine s_standL ?_)) | ((with_reducible first | refine s_g_c ?_ ?_ | refine s_cond_c ?_ ?_ | refine s_tg_c ?_ ?_ | refine s_ag_c ?_ ?_) <;> intro hb <;> rw [hb] <;> (try simp only [decide_eq_true_eq, decide_eq_false_iff_not, beq_iff_eq, bne_iff_ne, beq_eq_false_iff_ne, bne_eq_false_iff_eq, ne_eq, Int.not_lt, Int.not_le, gt_iff_lt, ge_iff_le, Bool.not_eq_true', Bool.not_eq_false'] at hb)) | ((with_reducible first | refine s_ret ?_ | refine s_normal ?_); try simp only [x_tup0, x_tup1, x_tup2, x_tup3, x_tup4, x_tup5, and_true, true_and])))
        exact tE_20 ht (.inr (hnd (by omega) (by omega)))
      · subst hQ
        (repeat' (first | (with_reducible refine i_ops ?_; first | (refine g_mv ?_; refine s_mv ?_) | refine o_nil ?_ | (refine g_some ?_; first | refine s_g_t ?_ | refine s_g_f ?_ | refine s_g_f' ?_ | refine s_g_u ?_) | (refine g_pick ?_; first | refine s_pick_t ?_ | refine s_pick_f ?_) | (refine g_len ?_; first | refine s_lenB ?_ | refine s_pure ?_) | (refine g_idx ?_; first | (refine s_idxOB ?_; intro p hp hpw) | (refine s_idxB ?_; intro p hp)) | (refine g_slc ?_; ((first | refine s_slcB ?_ | refine s_slcB01 ?_ | refine s_slcB10 ?_); intro us hus hbs)) | (refine g_build ?_; first | refine s_build ?_ | refine s_buildP ?_) | (refine g_pure ?_; first | refine s_pure ?_ | refine s_saddB ?_) | (refine g_lfield ?_; refine s_lfield ?_) | (refine g_lload ?_; refine s_lload ?_) | (refine g_lstore ?_; first | refine s_lstoreA ?_ | refine s_lstore ?_) | (refine g_lindex ?_; refine s_lindex ?_) | (refine g_lalloc ?_; refine s_lalloc ?_) | (refine g_lbox ?_; refine s_lbox ?_) | (refine g_lmove ?_; refine s_lmove ?_) | (refine g_hload ?_; refine s_hloadP ?_) | (refine g_hstore ?_; (refine s_hstoreB ?_; intro G' hle ho hkp)) | (refine g_b2s ?_; refine s_b2sB ?_)) | (with_reducible refine i_vc ?_; first | refine v_seq ?_ | refine v_ops ?_ | (refine g_cond ?_; first | refine s_cond_t ?_ | refine s_cond_f ?_) | refine v_block ?_ | refine v_skip ?_ | refine v_exit ?_ | refine v_ret ?_ | refine s_drawl ?_ | refine v_draw0 ?_ | refine v_scope ?_) | (with_reducible refine i_plan ?_; first | refine p_done ?_ | refine s_pre ?_ | refine s_preN ?_ | refine s_ag_t ?_ | refine s_ag_f ?_ | refine s_alt ?_ | refine p_alt ?_ ?_) | (with_reducible first | refine n_then ?_ | refine r_then ?_ | refine e_then ?_ | refine n_block ?_ | refine r_block ?_ | refine e_block_eq (by with_unfolding_all rfl) ?_ | refine e_block_ne (by with_unfolding_all rfl) ?_ | refine n_scope ?_ | refine r_scope ?_ | refine e_scope ?_ | (refine g_stand ?_; first | refine s_stand ?_ | refine s_standL ?_)) | ((with_reducible first | refine s_g_c ?_ ?_ | refine s_cond_c ?_ ?_ | refine s_tg_c ?_ ?_ | refine s_ag_c ?_ ?_) <;> intro hb <;> rw [hb] <;> (try simp only [decide_eq_true_eq, decide_eq_false_iff_not, beq_iff_eq, bne_iff_ne, beq_eq_false_iff_ne, bne_eq_false_iff_eq, ne_eq, Int.not_lt, Int.not_le, gt_iff_lt, ge_iff_le, Bool.not_eq_true', Bool.not_eq_false'] at hb)) | ((with_reducible first | refine s_ret ?_ | refine s_normal ?_); try simp only [x_tup0, x_tup1, x_tup2, x_tup3, x_tup4, x_tup5, and_true, true_and])))
        exact tE_20 ht (.inr (hnd (by omega) (by omega)))
      · refine ⟨k + 10 - (i + 1), by omega, i + 1, rfl, ⟨by omega, fun j hj => ?_⟩, (by refine ⟨SL.get_fn (by with_unfolding_all rfl), SL.get_fn (by with_unfolding_all rfl), SL.get_fn (by with_unfolding_all rfl), SL.get_fn (by with_unfolding_all rfl), SL.get_fn (by with_unfolding_all rfl), SL.get_fn (by with_unfolding_all rfl), trivial⟩), trivial, rfl⟩
        by_cases hji : j < i
        · exact k2 j hji
        · obtain rfl : j = i := by omega
          exact ⟨by assumption, hb⟩
      · subst hQ
        refine n_then ?_
        have hD := hDi (by omega)
        rw [ek]
        refine v_trim [(0, .int .i64 tag), (1, u), (6, .int .i64 k)] [] (by refine ⟨SL.get_fn (by with_unfolding_all rfl), SL.get_fn (by with_unfolding_all rfl), SL.get_fn (by with_unfolding_all rfl), trivial⟩) trivial ?_
        intro s l
        obtain ⟨e1, e2⟩ := tE_fE ht (by omega) h90 (by rw [hk]; exact hD)
        refine hA s l h hlk hk.symm ht hD ⟨?_, trivial⟩
        rw [e1, e2, hk]
  · refine HC.start comp29 rfl ?_; unfold pc29
    (repeat' (first | (with_reducible refine i_ops ?_; first | (refine g_mv ?_; refine s_mv ?_) | refine o_nil ?_ | (refine g_some ?_; first | refine s_g_t ?_ | refine s_g_f ?_ | refine s_g_f' ?_ | refine s_g_u ?_) | (refine g_pick ?_; first | refine s_pick_t ?_ | refine s_pick_f ?_) | (refine g_len ?_; first | refine s_lenB ?_ | refine s_pure ?_) | (refine g_idx ?_; first | (refine s_idxOB ?_; intro p hp hpw) | (refine s_idxB ?_; intro p hp)) | (refine g_slc ?_; ((first | refine s_slcB ?_ | refine s_slcB01 ?_ | refine s_slcB10 ?_); intro us hus hbs)) | (refine g_build ?_; first | refine s_build ?_ | refine s_buildP ?_) | (refine g_pure ?_; first | refine s_pure ?_ | refine s_saddB ?_) | (refine g_lfield ?_; refine s_lfield ?_) | (refine g_lload ?_; refine s_lload ?_) | (refine g_lstore ?_; first | refine s_lstoreA ?_ | refine s_lstore ?_) | (refine g_lindex ?_; refine s_lindex ?_) | (refine g_lalloc ?_; refine s_lalloc ?_) | (refine g_lbox ?_; refine s_lbox ?_) | (refine g_lmove ?_; refine s_lmove ?_) | (refine g_hload ?_; refine s_hloadP ?_) | (refine g_hstore ?_; (refine s_hstoreB ?_; intro G' hle ho hkp)) | (refine g_b2s ?_; refine s_b2sB ?_)) | (with_reducible refine i_vc ?_; first | refine v_seq ?_ | refine v_ops ?_ | (refine g_cond ?_; first | refine s_cond_t ?_ | refine s_cond_f ?_) | refine v_block ?_ | refine v_skip ?_ | refine v_exit ?_ | refine v_ret ?_ | refine s_drawl ?_ | refine v_draw0 ?_ | refine v_scope ?_) | (with_reducible refine i_plan ?_; first | refine p_done ?_ | refine s_pre ?_ | refine s_preN ?_ | refine s_ag_t ?_ | refine s_ag_f ?_ | refine s_alt ?_ | refine p_alt ?_ ?_) | (with_reducible first | refine n_then ?_ | refine r_then ?_ | refine e_then ?_ | refine n_block ?_ | refine r_block ?_ | refine e_block_eq (by with_unfolding_all rfl) ?_ | refine e_block_ne (by with_unfolding_all rfl) ?_ | refine n_scope ?_ | refine r_scope ?_ | refine e_scope ?_ | (refine g_stand ?_; first | refine s_stand ?_ | refine s_standL ?_)) | ((with_reducible first | refine s_g_c ?_ ?_ | refine s_cond_c ?_ ?_ | refine s_tg_c ?_ ?_ | refine s_ag_c ?_ ?_) <;> intro hb <;> rw [hb] <;> (try simp only [decide_eq_true_eq, decide_eq_false_iff_not, beq_iff_eq, bne_iff_ne, beq_eq_false_iff_ne, bne_eq_false_iff_eq, ne_eq, Int.not_lt, Int.not_le, gt_iff_lt, ge_iff_le, Bool.not_eq_true', Bool.not_eq_false'] at hb)) | ((with_reducible first | refine s_ret ?_ | refine s_normal ?_); try simp only [x_tup0, x_tup1, x_tup2, x_tup3, x_tup4, x_tup5, and_true, true_and])))
    all_goals first
      | exact tE_11 ht
      | (exfalso; omega)
end Go.Proofs.Ytigefimonifpmaa.V
