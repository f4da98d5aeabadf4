/- Limbs: trimmed, compared. -/
import Derived.Test.YtfacphjjkanajaaDoorKCA
import Derived.Test.YtfacphjjkanajaaDoorKCW
set_option linter.unusedSimpArgs false
set_option linter.unusedVariables false
-- @nums
namespace Go.Proofs.YtfacphjjkanajaaDoor.V
open Go.RowKit Go.ChangeShapes Go.WideShapes
/-- How many limbs a number has. -/
abbrev ln (xs : List Nat) : Nat := (dg 18446744073709551616 (val 18446744073709551616 xs)).length
theorem ln_le {xs : List Nat} (h : Dl 18446744073709551616 xs) : ln xs ≤ xs.length := dg_val_len (by decide) h
theorem trim {u : Value} {xs : List Nat} {G : GH} (h : Nu .u64 G u xs) (hd : Dl 18446744073709551616 xs) : HC Tryd.prog 34 #[u] G fun v G' => v = trimS u (ln xs) ∧ G' = G := by
  have hl := Nu.len_le h
  refine HC.start comp34 rfl ?_; unfold pc34
  (repeat' (first | (with_reducible refine i_ops ?_; first | (refine g_mv ?_; refine s_mv ?_) | refine o_nil ?_ | (refine g_some ?_; first | refine s_g_t ?_ | refine s_g_f ?_ | refine s_g_f' ?_ | refine s_g_u ?_) | (refine g_pick ?_; first | refine s_pick_t ?_ | refine s_pick_f ?_) | (refine g_len ?_; first | refine s_lenN ?_ | refine s_lenB ?_ | refine s_pure ?_) | (refine g_idx ?_; first | (refine s_idxN ?_; intro p hp; try simp only [Int.toNat_natCast] at hp) | (refine s_idxOB ?_; intro p hp hpw) | (refine s_idxB ?_; intro p hp)) | (refine g_slc ?_; ((first | refine s_slcB ?_ | refine s_slcB01 ?_ | refine s_slcB10 ?_); intro us hus hbs)) | (refine g_pure ?_; first | refine s_pure ?_ | refine s_saddB ?_) | (refine g_hload ?_; refine s_hloadP ?_) | (refine g_hstore ?_; (refine s_hstoreB ?_; intro G' hle ho hkp))) | (with_reducible refine i_vc ?_; first | refine v_seq ?_ | refine v_ops ?_ | (refine g_cond ?_; first | refine s_cond_t ?_ | refine s_cond_f ?_) | refine v_block ?_ | refine v_skip ?_ | refine v_exit ?_ | refine v_ret ?_ | refine s_drawl ?_ | refine v_draw0 ?_) | (with_reducible refine i_plan ?_; first | refine p_done ?_ | refine s_pre ?_ | refine s_preN ?_ | refine s_ag_t ?_ | refine s_ag_f ?_) | (with_reducible first | refine n_then ?_ | refine r_then ?_ | refine e_then ?_ | refine n_block ?_ | refine r_block ?_ | refine e_block_eq (by with_unfolding_all rfl) ?_ | refine e_block_ne (by with_unfolding_all rfl) ?_) | ((with_reducible first | refine s_g_c ?_ ?_ | refine s_cond_c ?_ ?_ | refine s_tg_c ?_ ?_ | refine s_ag_c ?_ ?_) <;> intro hb <;> rw [hb] <;> (try simp only [decide_eq_true_eq, decide_eq_false_iff_not, beq_iff_eq, bne_iff_ne, beq_eq_false_iff_ne, bne_eq_false_iff_eq, ne_eq, Int.not_lt, Int.not_le, gt_iff_lt, ge_iff_le, Bool.not_eq_true', Bool.not_eq_false'] at hb)) | ((with_reducible first | refine s_ret ?_ | refine s_normal ?_); try simp only [x_tup0, x_tup1, x_tup2, x_tup3, x_tup4, x_tup5, and_true, true_and])))
  refine v_loopX (α := Nat) (fun i => i ≤ xs.length ∧ ∀ j, i ≤ j → xs.getD j 0 = 0) (fun i => [(0, u), (3, .int .i64 i)]) (fun _ => []) (fun _ => G) (fun i => i) xs.length
    ⟨Nat.le_refl _, fun j hj => getD_ge xs hj⟩ (by refine ⟨SL.get_fn (by with_unfolding_all rfl), SL.get_fn (by with_unfolding_all rfl), trivial⟩) trivial rfl ?_
  rintro i s ll ⟨k1, k2⟩
  dsimp only [SL.sets, AL.sets]
  (repeat' (first | (with_reducible refine i_ops ?_; first | (refine g_mv ?_; refine s_mv ?_) | refine o_nil ?_ | (refine g_some ?_; first | refine s_g_t ?_ | refine s_g_f ?_ | refine s_g_f' ?_ | refine s_g_u ?_) | (refine g_pick ?_; first | refine s_pick_t ?_ | refine s_pick_f ?_) | (refine g_len ?_; first | refine s_lenN ?_ | refine s_lenB ?_ | refine s_pure ?_) | (refine g_idx ?_; first | (refine s_idxN ?_; intro p hp; try simp only [Int.toNat_natCast] at hp) | (refine s_idxOB ?_; intro p hp hpw) | (refine s_idxB ?_; intro p hp)) | (refine g_slc ?_; ((first | refine s_slcB ?_ | refine s_slcB01 ?_ | refine s_slcB10 ?_); intro us hus hbs)) | (refine g_pure ?_; first | refine s_pure ?_ | refine s_saddB ?_) | (refine g_hload ?_; refine s_hloadP ?_) | (refine g_hstore ?_; (refine s_hstoreB ?_; intro G' hle ho hkp))) | (with_reducible refine i_vc ?_; first | refine v_seq ?_ | refine v_ops ?_ | (refine g_cond ?_; first | refine s_cond_t ?_ | refine s_cond_f ?_) | refine v_block ?_ | refine v_skip ?_ | refine v_exit ?_ | refine v_ret ?_ | refine s_drawl ?_ | refine v_draw0 ?_) | (with_reducible refine i_plan ?_; first | refine p_done ?_ | refine s_pre ?_ | refine s_preN ?_ | refine s_ag_t ?_ | refine s_ag_f ?_) | (with_reducible first | refine n_then ?_ | refine r_then ?_ | refine e_then ?_ | refine n_block ?_ | refine r_block ?_ | refine e_block_eq (by with_unfolding_all rfl) ?_ | refine e_block_ne (by with_unfolding_all rfl) ?_) | ((with_reducible first | refine s_g_c ?_ ?_ | refine s_cond_c ?_ ?_ | refine s_tg_c ?_ ?_ | refine s_ag_c ?_ ?_) <;> intro hb <;> rw [hb] <;> (try simp only [decide_eq_true_eq, decide_eq_false_iff_not, beq_iff_eq, bne_iff_ne, beq_eq_false_iff_ne, bne_eq_false_iff_eq, ne_eq, Int.not_lt, Int.not_le, gt_iff_lt, ge_iff_le, Bool.not_eq_true', Bool.not_eq_false'] at hb)) | ((with_reducible first | refine s_ret ?_ | refine s_normal ?_); try simp only [x_tup0, x_tup1, x_tup2, x_tup3, x_tup4, x_tup5, and_true, true_and])))
  · refine ⟨i - 1, by omega, i - 1, rfl, ⟨by omega, fun j hj => ?_⟩, ?_, trivial, rfl⟩
    · by_cases h1 : j = i - 1
      · rw [show (↑i - 1 : Int).toNat = i - 1 by omega] at hb
        rw [h1]; omega
      · exact k2 j (by omega)
    · rw [show ((i - 1 : Nat) : Int) = (i : Int) - 1 by omega]
      exact (by refine ⟨SL.get_fn (by with_unfolding_all rfl), SL.get_fn (by with_unfolding_all rfl), trivial⟩)
  · have e : xs.take i = dg 18446744073709551616 (val 18446744073709551616 xs) := dg_take (by decide) hd k1 k2 (.inr (by rw [show (↑i - 1 : Int).toNat = i - 1 by omega] at hb; omega))
    have e2 : ln xs = i := by unfold ln; rw [← e, List.length_take]; omega
    refine o_pure (v := trimS u i) (by with_unfolding_all rfl) (trimS_pure h (by rw [Nu.len h]; exact k1)) ?_
    (repeat' (first | (with_reducible refine i_ops ?_; first | (refine g_mv ?_; refine s_mv ?_) | refine o_nil ?_ | (refine g_some ?_; first | refine s_g_t ?_ | refine s_g_f ?_ | refine s_g_f' ?_ | refine s_g_u ?_) | (refine g_pick ?_; first | refine s_pick_t ?_ | refine s_pick_f ?_) | (refine g_len ?_; first | refine s_lenN ?_ | refine s_lenB ?_ | refine s_pure ?_) | (refine g_idx ?_; first | (refine s_idxN ?_; intro p hp; try simp only [Int.toNat_natCast] at hp) | (refine s_idxOB ?_; intro p hp hpw) | (refine s_idxB ?_; intro p hp)) | (refine g_slc ?_; ((first | refine s_slcB ?_ | refine s_slcB01 ?_ | refine s_slcB10 ?_); intro us hus hbs)) | (refine g_pure ?_; first | refine s_pure ?_ | refine s_saddB ?_) | (refine g_hload ?_; refine s_hloadP ?_) | (refine g_hstore ?_; (refine s_hstoreB ?_; intro G' hle ho hkp))) | (with_reducible refine i_vc ?_; first | refine v_seq ?_ | refine v_ops ?_ | (refine g_cond ?_; first | refine s_cond_t ?_ | refine s_cond_f ?_) | refine v_block ?_ | refine v_skip ?_ | refine v_exit ?_ | refine v_ret ?_ | refine s_drawl ?_ | refine v_draw0 ?_) | (with_reducible refine i_plan ?_; first | refine p_done ?_ | refine s_pre ?_ | refine s_preN ?_ | refine s_ag_t ?_ | refine s_ag_f ?_) | (with_reducible first | refine n_then ?_ | refine r_then ?_ | refine e_then ?_ | refine n_block ?_ | refine r_block ?_ | refine e_block_eq (by with_unfolding_all rfl) ?_ | refine e_block_ne (by with_unfolding_all rfl) ?_) | ((with_reducible first | refine s_g_c ?_ ?_ | refine s_cond_c ?_ ?_ | refine s_tg_c ?_ ?_ | refine s_ag_c ?_ ?_) <;> intro hb <;> rw [hb] <;> (try simp only [decide_eq_true_eq, decide_eq_false_iff_not, beq_iff_eq, bne_iff_ne, beq_eq_false_iff_ne, bne_eq_false_iff_eq, ne_eq, Int.not_lt, Int.not_le, gt_iff_lt, ge_iff_le, Bool.not_eq_true', Bool.not_eq_false'] at hb)) | ((with_reducible first | refine s_ret ?_ | refine s_normal ?_); try simp only [x_tup0, x_tup1, x_tup2, x_tup3, x_tup4, x_tup5, and_true, true_and])))
    rw [e2]
  · have e : xs.take i = dg 18446744073709551616 (val 18446744073709551616 xs) := dg_take (by decide) hd k1 k2 (.inl (by omega))
    have e2 : ln xs = i := by unfold ln; rw [← e, List.length_take]; omega
    refine o_pure (v := trimS u i) (by with_unfolding_all rfl) (trimS_pure h (by rw [Nu.len h]; exact k1)) ?_
    (repeat' (first | (with_reducible refine i_ops ?_; first | (refine g_mv ?_; refine s_mv ?_) | refine o_nil ?_ | (refine g_some ?_; first | refine s_g_t ?_ | refine s_g_f ?_ | refine s_g_f' ?_ | refine s_g_u ?_) | (refine g_pick ?_; first | refine s_pick_t ?_ | refine s_pick_f ?_) | (refine g_len ?_; first | refine s_lenN ?_ | refine s_lenB ?_ | refine s_pure ?_) | (refine g_idx ?_; first | (refine s_idxN ?_; intro p hp; try simp only [Int.toNat_natCast] at hp) | (refine s_idxOB ?_; intro p hp hpw) | (refine s_idxB ?_; intro p hp)) | (refine g_slc ?_; ((first | refine s_slcB ?_ | refine s_slcB01 ?_ | refine s_slcB10 ?_); intro us hus hbs)) | (refine g_pure ?_; first | refine s_pure ?_ | refine s_saddB ?_) | (refine g_hload ?_; refine s_hloadP ?_) | (refine g_hstore ?_; (refine s_hstoreB ?_; intro G' hle ho hkp))) | (with_reducible refine i_vc ?_; first | refine v_seq ?_ | refine v_ops ?_ | (refine g_cond ?_; first | refine s_cond_t ?_ | refine s_cond_f ?_) | refine v_block ?_ | refine v_skip ?_ | refine v_exit ?_ | refine v_ret ?_ | refine s_drawl ?_ | refine v_draw0 ?_) | (with_reducible refine i_plan ?_; first | refine p_done ?_ | refine s_pre ?_ | refine s_preN ?_ | refine s_ag_t ?_ | refine s_ag_f ?_) | (with_reducible first | refine n_then ?_ | refine r_then ?_ | refine e_then ?_ | refine n_block ?_ | refine r_block ?_ | refine e_block_eq (by with_unfolding_all rfl) ?_ | refine e_block_ne (by with_unfolding_all rfl) ?_) | ((with_reducible first | refine s_g_c ?_ ?_ | refine s_cond_c ?_ ?_ | refine s_tg_c ?_ ?_ | refine s_ag_c ?_ ?_) <;> intro hb <;> rw [hb] <;> (try simp only [decide_eq_true_eq, decide_eq_false_iff_not, beq_iff_eq, bne_iff_ne, beq_eq_false_iff_ne, bne_eq_false_iff_eq, ne_eq, Int.not_lt, Int.not_le, gt_iff_lt, ge_iff_le, Bool.not_eq_true', Bool.not_eq_false'] at hb)) | ((with_reducible first | refine s_ret ?_ | refine s_normal ?_); try simp only [x_tup0, x_tup1, x_tup2, x_tup3, x_tup4, x_tup5, and_true, true_and])))
    rw [e2]
theorem ln_zero {xs : List Nat} : ∀ j, ln xs ≤ j → Dl 18446744073709551616 xs → xs.getD j 0 = 0 := by
  intro j hj hd
  by_cases h : j < xs.length
  · have e := val_split 18446744073709551616 xs (ln xs)
    have h1 := lt_dg (B := 18446744073709551616) (by decide) (val 18446744073709551616 xs)
    have h2 : val 18446744073709551616 (xs.drop (ln xs)) = 0 := by
      by_cases h0 : val 18446744073709551616 (xs.drop (ln xs)) = 0
      · exact h0
      · have := Nat.mul_le_mul_left (18446744073709551616 ^ ln xs) (show 1 ≤ val 18446744073709551616 (xs.drop (ln xs)) by omega)
        rw [Nat.mul_one] at this
        change val 18446744073709551616 xs < 18446744073709551616 ^ ln xs at h1
        omega
    rw [val_split 18446744073709551616 _ (j - ln xs)] at h2
    have h3 : 0 < 18446744073709551616 ^ (j - ln xs) := Nat.pow_pos (by decide)
    have h4 : val 18446744073709551616 ((xs.drop (ln xs)).drop (j - ln xs)) = 0 := by
      rcases Nat.eq_zero_or_pos (val 18446744073709551616 ((xs.drop (ln xs)).drop (j - ln xs))) with h | h
      · exact h
      · have := Nat.mul_pos h3 h; omega
    rw [List.drop_drop, show ln xs + (j - ln xs) = j by omega, List.drop_eq_getElem_cons h, val] at h4
    rw [List.getD_eq_getElem?_getD, List.getElem?_eq_getElem h]
    simp; omega
  · exact getD_ge xs (by omega)
/-- The limbs that count. -/
theorem ln_take {xs : List Nat} (hd : Dl 18446744073709551616 xs) : xs.take (ln xs) = dg 18446744073709551616 (val 18446744073709551616 xs) := by
  have hz : ∀ j, ln xs ≤ j → xs.getD j 0 = 0 := fun j hj => ln_zero j hj hd
  have h1 := ln_le hd
  by_cases h0 : ln xs = 0
  · exact dg_take (by decide) hd h1 hz (.inl h0)
  · by_cases ht : xs.getD (ln xs - 1) 0 = 0
    · exfalso
      have hz2 : ∀ j, ln xs - 1 ≤ j → xs.getD j 0 = 0 := fun j hj => by
        by_cases h : j = ln xs - 1
        · rw [h]; exact ht
        · exact hz j (by omega)
      have h2 : val 18446744073709551616 xs < 18446744073709551616 ^ (ln xs - 1) := by
        rw [← val_take_zero hz2]
        have := val_lt (hd.take (ln xs - 1))
        rw [List.length_take, Nat.min_eq_left (by omega)] at this; exact this
      have := dg_len_le (B := 18446744073709551616) (by decide) h2
      change ln xs ≤ _ at this
      omega
    · exact dg_take (by decide) hd h1 hz (.inr ht)
theorem trim_nu {u : Value} {xs : List Nat} {G : GH} (h : Nu .u64 G u xs) (hd : Dl 18446744073709551616 xs) : Nu .u64 G (trimS u (ln xs)) (dg 18446744073709551616 (val 18446744073709551616 xs)) := by
  have := trimS_sl h (n := ln xs) (by rw [Nu.len h]; exact ln_le hd)
  rw [Nat.mul_one, ← List.map_take, ln_take hd] at this; exact this
theorem trim_own {u : Value} {xs : List Nat} {G0 G : GH} (h : Own 1 G0 G u (xs.map (iv .u64))) (hd : Dl 18446744073709551616 xs) : Own 1 G0 G (trimS u (ln xs)) ((dg 18446744073709551616 (val 18446744073709551616 xs)).map (iv .u64)) := by
  have := trimS_own h (n := ln xs) (by rw [Nu.len h.sl]; exact ln_le hd)
  rw [Nat.mul_one, ← List.map_take, ln_take hd] at this; exact this
/-- Two numbers without noughts at the end, compared. -/
theorem compare36 {u v : Value} {a b : Nat} {G : GH} (h : Nu .u64 G u (dg 18446744073709551616 a)) (k : Nu .u64 G v (dg 18446744073709551616 b)) : HC Tryd.prog 36 #[u, v] G fun v G' => v = .int .i64 (cmp a b) ∧ G' = G := by
  have hl := Nu.len_le h
  have kl := Nu.len_le k
  have B2 : 2 ≤ 18446744073709551616 := by decide
  refine HC.start comp36 rfl ?_; unfold pc36
  (repeat' (first | (with_reducible refine i_ops ?_; first | (refine g_mv ?_; refine s_mv ?_) | refine o_nil ?_ | (refine g_some ?_; first | refine s_g_t ?_ | refine s_g_f ?_ | refine s_g_f' ?_ | refine s_g_u ?_) | (refine g_pick ?_; first | refine s_pick_t ?_ | refine s_pick_f ?_) | (refine g_len ?_; first | refine s_lenN ?_ | refine s_lenB ?_ | refine s_pure ?_) | (refine g_idx ?_; first | (refine s_idxN ?_; intro p hp; try simp only [Int.toNat_natCast] at hp) | (refine s_idxOB ?_; intro p hp hpw) | (refine s_idxB ?_; intro p hp)) | (refine g_slc ?_; ((first | refine s_slcB ?_ | refine s_slcB01 ?_ | refine s_slcB10 ?_); intro us hus hbs)) | (refine g_pure ?_; first | refine s_pure ?_ | refine s_saddB ?_) | (refine g_hload ?_; refine s_hloadP ?_) | (refine g_hstore ?_; (refine s_hstoreB ?_; intro G' hle ho hkp))) | (with_reducible refine i_vc ?_; first | refine v_seq ?_ | refine v_ops ?_ | (refine g_cond ?_; first | refine s_cond_t ?_ | refine s_cond_f ?_) | refine v_block ?_ | refine v_skip ?_ | refine v_exit ?_ | refine v_ret ?_ | refine s_drawl ?_ | refine v_draw0 ?_) | (with_reducible refine i_plan ?_; first | refine p_done ?_ | refine s_pre ?_ | refine s_preN ?_ | refine s_ag_t ?_ | refine s_ag_f ?_) | (with_reducible first | refine n_then ?_ | refine r_then ?_ | refine e_then ?_ | refine n_block ?_ | refine r_block ?_ | refine e_block_eq (by with_unfolding_all rfl) ?_ | refine e_block_ne (by with_unfolding_all rfl) ?_) | ((with_reducible first | refine s_g_c ?_ ?_ | refine s_cond_c ?_ ?_ | refine s_tg_c ?_ ?_ | refine s_ag_c ?_ ?_) <;> intro hb <;> rw [hb] <;> (try simp only [decide_eq_true_eq, decide_eq_false_iff_not, beq_iff_eq, bne_iff_ne, beq_eq_false_iff_ne, bne_eq_false_iff_eq, ne_eq, Int.not_lt, Int.not_le, gt_iff_lt, ge_iff_le, Bool.not_eq_true', Bool.not_eq_false'] at hb)) | ((with_reducible first | refine s_ret ?_ | refine s_normal ?_); try simp only [x_tup0, x_tup1, x_tup2, x_tup3, x_tup4, x_tup5, and_true, true_and])))
  · congr 1
    by_cases hlt : (dg 18446744073709551616 a).length < (dg 18446744073709551616 b).length
    · rw [cmp_lt (dg_len_lt B2 hlt)]
      split <;> split <;> omega
    · rw [cmp_gt (dg_len_lt B2 (show (dg 18446744073709551616 b).length < (dg 18446744073709551616 a).length by omega))]
      split <;> split <;> omega
  have hlen : (dg 18446744073709551616 a).length = (dg 18446744073709551616 b).length := by omega
  have hle := hlen.symm
  refine v_loopX (α := Nat) (fun n => n ≤ (dg 18446744073709551616 a).length ∧ (dg 18446744073709551616 a).drop n = (dg 18446744073709551616 b).drop n) (fun n => [(0, u), (1, v), (5, .int .i64 ((n : Int) - 1))]) (fun _ => []) (fun _ => G) (fun n => n) (dg 18446744073709551616 a).length
    ⟨Nat.le_refl _, by rw [List.drop_of_length_le (Nat.le_refl _), List.drop_of_length_le (by omega)]⟩ (by refine ⟨SL.get_fn (by with_unfolding_all rfl), SL.get_fn (by with_unfolding_all rfl), SL.get_fn (by with_unfolding_all rfl), trivial⟩) trivial rfl ?_
  rintro n s ll ⟨k1, k2⟩
  dsimp only [SL.sets, AL.sets]
  (repeat' (first | (with_reducible refine i_ops ?_; first | (refine g_mv ?_; refine s_mv ?_) | refine o_nil ?_ | (refine g_some ?_; first | refine s_g_t ?_ | refine s_g_f ?_ | refine s_g_f' ?_ | refine s_g_u ?_) | (refine g_pick ?_; first | refine s_pick_t ?_ | refine s_pick_f ?_) | (refine g_len ?_; first | refine s_lenN ?_ | refine s_lenB ?_ | refine s_pure ?_) | (refine g_idx ?_; first | (refine s_idxN ?_; intro p hp; try simp only [Int.toNat_natCast] at hp) | (refine s_idxOB ?_; intro p hp hpw) | (refine s_idxB ?_; intro p hp)) | (refine g_slc ?_; ((first | refine s_slcB ?_ | refine s_slcB01 ?_ | refine s_slcB10 ?_); intro us hus hbs)) | (refine g_pure ?_; first | refine s_pure ?_ | refine s_saddB ?_) | (refine g_hload ?_; refine s_hloadP ?_) | (refine g_hstore ?_; (refine s_hstoreB ?_; intro G' hle ho hkp))) | (with_reducible refine i_vc ?_; first | refine v_seq ?_ | refine v_ops ?_ | (refine g_cond ?_; first | refine s_cond_t ?_ | refine s_cond_f ?_) | refine v_block ?_ | refine v_skip ?_ | refine v_exit ?_ | refine v_ret ?_ | refine s_drawl ?_ | refine v_draw0 ?_) | (with_reducible refine i_plan ?_; first | refine p_done ?_ | refine s_pre ?_ | refine s_preN ?_ | refine s_ag_t ?_ | refine s_ag_f ?_) | (with_reducible first | refine n_then ?_ | refine r_then ?_ | refine e_then ?_ | refine n_block ?_ | refine r_block ?_ | refine e_block_eq (by with_unfolding_all rfl) ?_ | refine e_block_ne (by with_unfolding_all rfl) ?_) | ((with_reducible first | refine s_g_c ?_ ?_ | refine s_cond_c ?_ ?_ | refine s_tg_c ?_ ?_ | refine s_ag_c ?_ ?_) <;> intro hb <;> rw [hb] <;> (try simp only [decide_eq_true_eq, decide_eq_false_iff_not, beq_iff_eq, bne_iff_ne, beq_eq_false_iff_ne, bne_eq_false_iff_eq, ne_eq, Int.not_lt, Int.not_le, gt_iff_lt, ge_iff_le, Bool.not_eq_true', Bool.not_eq_false'] at hb)) | ((with_reducible first | refine s_ret ?_ | refine s_normal ?_); try simp only [x_tup0, x_tup1, x_tup2, x_tup3, x_tup4, x_tup5, and_true, true_and])))
  all_goals first | (obtain ⟨m, rfl⟩ : ∃ m, n = m + 1 := ⟨n - 1, by omega⟩; simp only [show (((m + 1 : Nat) : Int) - 1).toNat = m by omega] at *) | skip
  · rw [cmp_lt (dg_less B2 k2 (by omega))]
  · rw [cmp_gt (dg_less B2 k2.symm (by omega))]
  · refine ⟨m, by omega, m, rfl, ⟨by omega, drop_step (by omega) (by omega) k2 (by omega)⟩, ?_, trivial, rfl⟩
    rw [show ((m : Nat) : Int) - 1 = ((m + 1 : Nat) : Int) - 1 - 1 by omega]
    exact (by refine ⟨SL.get_fn (by with_unfolding_all rfl), SL.get_fn (by with_unfolding_all rfl), SL.get_fn (by with_unfolding_all rfl), trivial⟩)
  · have hn : n = 0 := by omega
    subst hn
    rw [cmp_eq (dg_inj B2 (by simpa using k2))]
/-- Where numbers are boxed. -/
abbrev bx (w : Value) (e : TypeId) : Obj := .cells #[w] e
theorem nodup_ne {bs : List Nat} (h : bs.Nodup) {i j : Nat} (hi : i < bs.length) (hj : j < bs.length) (hij : i ≠ j) : bs[i] ≠ bs[j] := by
  rcases Nat.lt_or_gt_of_ne hij with h1 | h1
  · exact List.pairwise_iff_getElem.1 h i j hi hj h1
  · exact (List.pairwise_iff_getElem.1 h j i hj hi h1).symm
theorem may (w : Value) (bs : List Nat) (us : List Value) (xss : List (List Nat)) (e : TypeId) (G0 G : GH) (h0 : G0.le G) (hn : us.length = bs.length) (hn2 : xss.length = bs.length) (hw : Sl 1 G w (bs.map pt)) (hwb : ∀ b ∈ bs, blkS w ≠ some b)
    (hbx : ∀ j (h : j < bs.length), G0 bs[j] = none ∧ G bs[j] = some (bx us[j] e) ∧ Nu .u64 G0 us[j] xss[j] ∧ Dl 18446744073709551616 xss[j]) (hd : bs.Nodup) :
    HC Tryd.prog 25 #[w] G fun v G' => G0.le G' ∧ ((v = .bool false ∧ ∃ xs ∈ xss, 64 < ln xs) ∨ (v = .bool true ∧ (∀ xs ∈ xss, ln xs ≤ 64) ∧ ∀ j (h : j < bs.length), G' bs[j] = some (bx (trimS us[j] (ln xss[j])) e))) := by
  have hwl : lenS w = bs.length := by have := hw.len; simp at this; omega
  have hl := hw.len_le
  rw [hwl] at hl
  refine HC.start comp25 rfl ?_; unfold pc25
  (repeat' (first | (with_reducible refine i_ops ?_; first | (refine g_mv ?_; refine s_mv ?_) | refine o_nil ?_ | (refine g_some ?_; first | refine s_g_t ?_ | refine s_g_f ?_ | refine s_g_f' ?_ | refine s_g_u ?_) | (refine g_pick ?_; first | refine s_pick_t ?_ | refine s_pick_f ?_) | (refine g_len ?_; first | refine s_lenN ?_ | refine s_lenB ?_ | refine s_pure ?_) | (refine g_idx ?_; first | (refine s_idxN ?_; intro p hp; try simp only [Int.toNat_natCast] at hp) | (refine s_idxOB ?_; intro p hp hpw) | (refine s_idxB ?_; intro p hp)) | (refine g_slc ?_; ((first | refine s_slcB ?_ | refine s_slcB01 ?_ | refine s_slcB10 ?_); intro us hus hbs)) | (refine g_pure ?_; first | refine s_pure ?_ | refine s_saddB ?_) | (refine g_hload ?_; refine s_hloadP ?_) | (refine g_hstore ?_; (refine s_hstoreB ?_; intro G' hle ho hkp))) | (with_reducible refine i_vc ?_; first | refine v_seq ?_ | refine v_ops ?_ | (refine g_cond ?_; first | refine s_cond_t ?_ | refine s_cond_f ?_) | refine v_block ?_ | refine v_skip ?_ | refine v_exit ?_ | refine v_ret ?_ | refine s_drawl ?_ | refine v_draw0 ?_) | (with_reducible refine i_plan ?_; first | refine p_done ?_ | refine s_pre ?_ | refine s_preN ?_ | refine s_ag_t ?_ | refine s_ag_f ?_) | (with_reducible first | refine n_then ?_ | refine r_then ?_ | refine e_then ?_ | refine n_block ?_ | refine r_block ?_ | refine e_block_eq (by with_unfolding_all rfl) ?_ | refine e_block_ne (by with_unfolding_all rfl) ?_) | ((with_reducible first | refine s_g_c ?_ ?_ | refine s_cond_c ?_ ?_ | refine s_tg_c ?_ ?_ | refine s_ag_c ?_ ?_) <;> intro hb <;> rw [hb] <;> (try simp only [decide_eq_true_eq, decide_eq_false_iff_not, beq_iff_eq, bne_iff_ne, beq_eq_false_iff_ne, bne_eq_false_iff_eq, ne_eq, Int.not_lt, Int.not_le, gt_iff_lt, ge_iff_le, Bool.not_eq_true', Bool.not_eq_false'] at hb)) | ((with_reducible first | refine s_ret ?_ | refine s_normal ?_); try simp only [x_tup0, x_tup1, x_tup2, x_tup3, x_tup4, x_tup5, and_true, true_and])))
  refine o_lenS (by with_unfolding_all rfl) hw ?_
  rw [hwl]
  (repeat' (first | (with_reducible refine i_ops ?_; first | (refine g_mv ?_; refine s_mv ?_) | refine o_nil ?_ | (refine g_some ?_; first | refine s_g_t ?_ | refine s_g_f ?_ | refine s_g_f' ?_ | refine s_g_u ?_) | (refine g_pick ?_; first | refine s_pick_t ?_ | refine s_pick_f ?_) | (refine g_len ?_; first | refine s_lenN ?_ | refine s_lenB ?_ | refine s_pure ?_) | (refine g_idx ?_; first | (refine s_idxN ?_; intro p hp; try simp only [Int.toNat_natCast] at hp) | (refine s_idxOB ?_; intro p hp hpw) | (refine s_idxB ?_; intro p hp)) | (refine g_slc ?_; ((first | refine s_slcB ?_ | refine s_slcB01 ?_ | refine s_slcB10 ?_); intro us hus hbs)) | (refine g_pure ?_; first | refine s_pure ?_ | refine s_saddB ?_) | (refine g_hload ?_; refine s_hloadP ?_) | (refine g_hstore ?_; (refine s_hstoreB ?_; intro G' hle ho hkp))) | (with_reducible refine i_vc ?_; first | refine v_seq ?_ | refine v_ops ?_ | (refine g_cond ?_; first | refine s_cond_t ?_ | refine s_cond_f ?_) | refine v_block ?_ | refine v_skip ?_ | refine v_exit ?_ | refine v_ret ?_ | refine s_drawl ?_ | refine v_draw0 ?_) | (with_reducible refine i_plan ?_; first | refine p_done ?_ | refine s_pre ?_ | refine s_preN ?_ | refine s_ag_t ?_ | refine s_ag_f ?_) | (with_reducible first | refine n_then ?_ | refine r_then ?_ | refine e_then ?_ | refine n_block ?_ | refine r_block ?_ | refine e_block_eq (by with_unfolding_all rfl) ?_ | refine e_block_ne (by with_unfolding_all rfl) ?_) | ((with_reducible first | refine s_g_c ?_ ?_ | refine s_cond_c ?_ ?_ | refine s_tg_c ?_ ?_ | refine s_ag_c ?_ ?_) <;> intro hb <;> rw [hb] <;> (try simp only [decide_eq_true_eq, decide_eq_false_iff_not, beq_iff_eq, bne_iff_ne, beq_eq_false_iff_ne, bne_eq_false_iff_eq, ne_eq, Int.not_lt, Int.not_le, gt_iff_lt, ge_iff_le, Bool.not_eq_true', Bool.not_eq_false'] at hb)) | ((with_reducible first | refine s_ret ?_ | refine s_normal ?_); try simp only [x_tup0, x_tup1, x_tup2, x_tup3, x_tup4, x_tup5, and_true, true_and])))
  refine v_loopX (α := Nat × GH) (fun x => x.1 ≤ bs.length ∧ G0.le x.2 ∧ (∀ b, b ∉ bs → ∀ o, G b = some o → x.2 b = some o) ∧ ∀ j (h : j < bs.length), x.2 bs[j] = some (bx (if j < x.1 then trimS us[j] (ln xss[j]) else us[j]) e) ∧ (j < x.1 → ln xss[j] ≤ 64)) (fun x => [(5, w), (6, .int .i64 bs.length), (7, .int .i64 x.1)]) (fun _ => []) (fun x => x.2) (fun x => bs.length - x.1) (0, G)
    ⟨Nat.zero_le _, h0, fun b _ o h => h, fun j hj => ⟨by rw [if_neg (by simp)]; exact (hbx j hj).2.1, fun h => by simp at h⟩⟩ (by refine ⟨SL.get_fn (by with_unfolding_all rfl), SL.get_fn (by with_unfolding_all rfl), SL.get_fn (by with_unfolding_all rfl), trivial⟩) trivial rfl ?_
  rintro ⟨i, H⟩ s ll ⟨k1, k2, k3, k4⟩
  dsimp only at k1 k2 k3 k4
  dsimp only [SL.sets, AL.sets]
  (repeat' (first | (with_reducible refine i_ops ?_; first | (refine g_mv ?_; refine s_mv ?_) | refine o_nil ?_ | (refine g_some ?_; first | refine s_g_t ?_ | refine s_g_f ?_ | refine s_g_f' ?_ | refine s_g_u ?_) | (refine g_pick ?_; first | refine s_pick_t ?_ | refine s_pick_f ?_) | (refine g_len ?_; first | refine s_lenN ?_ | refine s_lenB ?_ | refine s_pure ?_) | (refine g_idx ?_; first | (refine s_idxN ?_; intro p hp; try simp only [Int.toNat_natCast] at hp) | (refine s_idxOB ?_; intro p hp hpw) | (refine s_idxB ?_; intro p hp)) | (refine g_slc ?_; ((first | refine s_slcB ?_ | refine s_slcB01 ?_ | refine s_slcB10 ?_); intro us hus hbs)) | (refine g_pure ?_; first | refine s_pure ?_ | refine s_saddB ?_) | (refine g_hload ?_; refine s_hloadP ?_) | (refine g_hstore ?_; (refine s_hstoreB ?_; intro G' hle ho hkp))) | (with_reducible refine i_vc ?_; first | refine v_seq ?_ | refine v_ops ?_ | (refine g_cond ?_; first | refine s_cond_t ?_ | refine s_cond_f ?_) | refine v_block ?_ | refine v_skip ?_ | refine v_exit ?_ | refine v_ret ?_ | refine s_drawl ?_ | refine v_draw0 ?_) | (with_reducible refine i_plan ?_; first | refine p_done ?_ | refine s_pre ?_ | refine s_preN ?_ | refine s_ag_t ?_ | refine s_ag_f ?_) | (with_reducible first | refine n_then ?_ | refine r_then ?_ | refine e_then ?_ | refine n_block ?_ | refine r_block ?_ | refine e_block_eq (by with_unfolding_all rfl) ?_ | refine e_block_ne (by with_unfolding_all rfl) ?_) | ((with_reducible first | refine s_g_c ?_ ?_ | refine s_cond_c ?_ ?_ | refine s_tg_c ?_ ?_ | refine s_ag_c ?_ ?_) <;> intro hb <;> rw [hb] <;> (try simp only [decide_eq_true_eq, decide_eq_false_iff_not, beq_iff_eq, bne_iff_ne, beq_eq_false_iff_ne, bne_eq_false_iff_eq, ne_eq, Int.not_lt, Int.not_le, gt_iff_lt, ge_iff_le, Bool.not_eq_true', Bool.not_eq_false'] at hb)) | ((with_reducible first | refine s_ret ?_ | refine s_normal ?_); try simp only [x_tup0, x_tup1, x_tup2, x_tup3, x_tup4, x_tup5, and_true, true_and])))
  · have hi : i < bs.length := by omega
    have hwH : Sl 1 H w (bs.map pt) := hw.keep fun b hbk o ho => k3 b (fun hm => hwb b hm hbk) o ho
    obtain ⟨e1, -⟩ := k4 i hi
    rw [if_neg (Nat.lt_irrefl _)] at e1
    obtain ⟨g1, g2, g3, g4⟩ := hbx i hi
    refine o_idxS (by with_unfolding_all rfl) hwH (by with_unfolding_all rfl) (by omega) (v := pt bs[i]) (by rw [Int.toNat_natCast, List.getElem?_map, List.getElem?_eq_getElem hi]; rfl) ?_
    intro p1 hp1
    (repeat' (first | (with_reducible refine i_ops ?_; first | (refine g_mv ?_; refine s_mv ?_) | refine o_nil ?_ | (refine g_some ?_; first | refine s_g_t ?_ | refine s_g_f ?_ | refine s_g_f' ?_ | refine s_g_u ?_) | (refine g_pick ?_; first | refine s_pick_t ?_ | refine s_pick_f ?_) | (refine g_len ?_; first | refine s_lenN ?_ | refine s_lenB ?_ | refine s_pure ?_) | (refine g_idx ?_; first | (refine s_idxN ?_; intro p hp; try simp only [Int.toNat_natCast] at hp) | (refine s_idxOB ?_; intro p hp hpw) | (refine s_idxB ?_; intro p hp)) | (refine g_slc ?_; ((first | refine s_slcB ?_ | refine s_slcB01 ?_ | refine s_slcB10 ?_); intro us hus hbs)) | (refine g_pure ?_; first | refine s_pure ?_ | refine s_saddB ?_) | (refine g_hload ?_; refine s_hloadP ?_) | (refine g_hstore ?_; (refine s_hstoreB ?_; intro G' hle ho hkp))) | (with_reducible refine i_vc ?_; first | refine v_seq ?_ | refine v_ops ?_ | (refine g_cond ?_; first | refine s_cond_t ?_ | refine s_cond_f ?_) | refine v_block ?_ | refine v_skip ?_ | refine v_exit ?_ | refine v_ret ?_ | refine s_drawl ?_ | refine v_draw0 ?_) | (with_reducible refine i_plan ?_; first | refine p_done ?_ | refine s_pre ?_ | refine s_preN ?_ | refine s_ag_t ?_ | refine s_ag_f ?_) | (with_reducible first | refine n_then ?_ | refine r_then ?_ | refine e_then ?_ | refine n_block ?_ | refine r_block ?_ | refine e_block_eq (by with_unfolding_all rfl) ?_ | refine e_block_ne (by with_unfolding_all rfl) ?_) | ((with_reducible first | refine s_g_c ?_ ?_ | refine s_cond_c ?_ ?_ | refine s_tg_c ?_ ?_ | refine s_ag_c ?_ ?_) <;> intro hb <;> rw [hb] <;> (try simp only [decide_eq_true_eq, decide_eq_false_iff_not, beq_iff_eq, bne_iff_ne, beq_eq_false_iff_ne, bne_eq_false_iff_eq, ne_eq, Int.not_lt, Int.not_le, gt_iff_lt, ge_iff_le, Bool.not_eq_true', Bool.not_eq_false'] at hb)) | ((with_reducible first | refine s_ret ?_ | refine s_normal ?_); try simp only [x_tup0, x_tup1, x_tup2, x_tup3, x_tup4, x_tup5, and_true, true_and])))
    refine o_pure (v := pt bs[i]) (by with_unfolding_all rfl) rfl ?_
    have P1 : PtR H (pt bs[i]) 1 false us[i] := ⟨_, _, _, _, _, rfl, e1, rfl⟩
    have gu : Nu .u64 H us[i] xss[i] := g3.le k2
    (repeat' (first | (with_reducible refine i_ops ?_; first | (refine g_mv ?_; refine s_mv ?_) | refine o_nil ?_ | (refine g_some ?_; first | refine s_g_t ?_ | refine s_g_f ?_ | refine s_g_f' ?_ | refine s_g_u ?_) | (refine g_pick ?_; first | refine s_pick_t ?_ | refine s_pick_f ?_) | (refine g_len ?_; first | refine s_lenN ?_ | refine s_lenB ?_ | refine s_pure ?_) | (refine g_idx ?_; first | (refine s_idxN ?_; intro p hp; try simp only [Int.toNat_natCast] at hp) | (refine s_idxOB ?_; intro p hp hpw) | (refine s_idxB ?_; intro p hp)) | (refine g_slc ?_; ((first | refine s_slcB ?_ | refine s_slcB01 ?_ | refine s_slcB10 ?_); intro us hus hbs)) | (refine g_pure ?_; first | refine s_pure ?_ | refine s_saddB ?_) | (refine g_hload ?_; refine s_hloadP ?_) | (refine g_hstore ?_; (refine s_hstoreB ?_; intro G' hle ho hkp))) | (with_reducible refine i_vc ?_; first | refine v_seq ?_ | refine v_ops ?_ | (refine g_cond ?_; first | refine s_cond_t ?_ | refine s_cond_f ?_) | refine v_block ?_ | refine v_skip ?_ | refine v_exit ?_ | refine v_ret ?_ | refine s_drawl ?_ | refine v_draw0 ?_) | (with_reducible refine i_plan ?_; first | refine p_done ?_ | refine s_pre ?_ | refine s_preN ?_ | refine s_ag_t ?_ | refine s_ag_f ?_) | (with_reducible first | refine n_then ?_ | refine r_then ?_ | refine e_then ?_ | refine n_block ?_ | refine r_block ?_ | refine e_block_eq (by with_unfolding_all rfl) ?_ | refine e_block_ne (by with_unfolding_all rfl) ?_) | ((with_reducible first | refine s_g_c ?_ ?_ | refine s_cond_c ?_ ?_ | refine s_tg_c ?_ ?_ | refine s_ag_c ?_ ?_) <;> intro hb <;> rw [hb] <;> (try simp only [decide_eq_true_eq, decide_eq_false_iff_not, beq_iff_eq, bne_iff_ne, beq_eq_false_iff_ne, bne_eq_false_iff_eq, ne_eq, Int.not_lt, Int.not_le, gt_iff_lt, ge_iff_le, Bool.not_eq_true', Bool.not_eq_false'] at hb)) | ((with_reducible first | refine s_ret ?_ | refine s_normal ?_); try simp only [x_tup0, x_tup1, x_tup2, x_tup3, x_tup4, x_tup5, and_true, true_and])))
    refine o_callp (by with_unfolding_all rfl) (trim gu g4) ?_
    refine o_pure (v := pt bs[i]) (by with_unfolding_all rfl) rfl ?_
    have hsh : ∃ a l c, trimS us[i] (ln xss[i]) = .slice a l c := (trim_nu gu g4).shape
    obtain ⟨ta, tl, tc, hts⟩ := hsh
    refine o_hstore (vs := [trimS us[i] (ln xss[i])]) (by with_unfolding_all rfl) e1 (by with_unfolding_all rfl) (by rw [hts]; rfl) ⟨rfl, by simp, by rw [hts]; rfl, .inl (by simp)⟩ ?_
    rw [show wr #[us[i]] 0 [trimS us[i] (ln xss[i])] = #[trimS us[i] (ln xss[i])] from rfl]
    have hk2 : G0.le (H.put bs[i] (bx (trimS us[i] (ln xss[i])) e)) := GH.le_put_of _ k2 g1
    have hk3 : ∀ b, b ∉ bs → ∀ o, G b = some o → (H.put bs[i] (bx (trimS us[i] (ln xss[i])) e)) b = some o := fun b hm o ho => by
      rw [GH.put_ne _ _ (fun h => hm (by rw [h]; exact List.getElem_mem hi))]; exact k3 b hm o ho
    have hk4 : ∀ j (h : j < bs.length), (H.put bs[i] (bx (trimS us[i] (ln xss[i])) e)) bs[j] = some (bx (if j < i + 1 then trimS us[j] (ln xss[j]) else us[j]) e) := fun j hj => by
      by_cases hji : j = i
      · subst hji; rw [GH.put_same, if_pos (by omega)]
      · rw [GH.put_ne _ _ (fun h => nodup_ne hd hj hi hji h), (k4 j hj).1]
        congr 2
        by_cases h : j < i
        · rw [if_pos h, if_pos (by omega)]
        · rw [if_neg h, if_neg (by omega)]
    have gt : Nu .u64 (H.put bs[i] (bx (trimS us[i] (ln xss[i])) e)) (trimS us[i] (ln xss[i])) (dg 18446744073709551616 (val 18446744073709551616 xss[i])) := (trim_nu g3 g4).le hk2
    have e2 := hk4 i hi
    rw [if_pos (by omega)] at e2
    obtain ⟨H2, hH2⟩ : ∃ H2, H2 = H.put bs[i] (bx (trimS us[i] (ln xss[i])) e) := ⟨_, rfl⟩
    rw [← hH2] at hk2 hk3 e2 gt ⊢
    simp only [← hH2] at hk4
    (repeat' (first | (with_reducible refine i_ops ?_; first | (refine g_mv ?_; refine s_mv ?_) | refine o_nil ?_ | (refine g_some ?_; first | refine s_g_t ?_ | refine s_g_f ?_ | refine s_g_f' ?_ | refine s_g_u ?_) | (refine g_pick ?_; first | refine s_pick_t ?_ | refine s_pick_f ?_) | (refine g_len ?_; first | refine s_lenN ?_ | refine s_lenB ?_ | refine s_pure ?_) | (refine g_idx ?_; first | (refine s_idxN ?_; intro p hp; try simp only [Int.toNat_natCast] at hp) | (refine s_idxOB ?_; intro p hp hpw) | (refine s_idxB ?_; intro p hp)) | (refine g_slc ?_; ((first | refine s_slcB ?_ | refine s_slcB01 ?_ | refine s_slcB10 ?_); intro us hus hbs)) | (refine g_pure ?_; first | refine s_pure ?_ | refine s_saddB ?_) | (refine g_hload ?_; refine s_hloadP ?_) | (refine g_hstore ?_; (refine s_hstoreB ?_; intro G' hle ho hkp))) | (with_reducible refine i_vc ?_; first | refine v_seq ?_ | refine v_ops ?_ | (refine g_cond ?_; first | refine s_cond_t ?_ | refine s_cond_f ?_) | refine v_block ?_ | refine v_skip ?_ | refine v_exit ?_ | refine v_ret ?_ | refine s_drawl ?_ | refine v_draw0 ?_) | (with_reducible refine i_plan ?_; first | refine p_done ?_ | refine s_pre ?_ | refine s_preN ?_ | refine s_ag_t ?_ | refine s_ag_f ?_) | (with_reducible first | refine n_then ?_ | refine r_then ?_ | refine e_then ?_ | refine n_block ?_ | refine r_block ?_ | refine e_block_eq (by with_unfolding_all rfl) ?_ | refine e_block_ne (by with_unfolding_all rfl) ?_) | ((with_reducible first | refine s_g_c ?_ ?_ | refine s_cond_c ?_ ?_ | refine s_tg_c ?_ ?_ | refine s_ag_c ?_ ?_) <;> intro hb <;> rw [hb] <;> (try simp only [decide_eq_true_eq, decide_eq_false_iff_not, beq_iff_eq, bne_iff_ne, beq_eq_false_iff_ne, bne_eq_false_iff_eq, ne_eq, Int.not_lt, Int.not_le, gt_iff_lt, ge_iff_le, Bool.not_eq_true', Bool.not_eq_false'] at hb)) | ((with_reducible first | refine s_ret ?_ | refine s_normal ?_); try simp only [x_tup0, x_tup1, x_tup2, x_tup3, x_tup4, x_tup5, and_true, true_and])))
    refine o_pure (v := pt bs[i]) (by with_unfolding_all rfl) rfl ?_
    have P2 : PtR H2 (pt bs[i]) 1 false (trimS us[i] (ln xss[i])) := ⟨_, _, _, _, _, rfl, e2, rfl⟩
    (repeat' (first | (with_reducible refine i_ops ?_; first | (refine g_mv ?_; refine s_mv ?_) | refine o_nil ?_ | (refine g_some ?_; first | refine s_g_t ?_ | refine s_g_f ?_ | refine s_g_f' ?_ | refine s_g_u ?_) | (refine g_pick ?_; first | refine s_pick_t ?_ | refine s_pick_f ?_) | (refine g_len ?_; first | refine s_lenN ?_ | refine s_lenB ?_ | refine s_pure ?_) | (refine g_idx ?_; first | (refine s_idxN ?_; intro p hp; try simp only [Int.toNat_natCast] at hp) | (refine s_idxOB ?_; intro p hp hpw) | (refine s_idxB ?_; intro p hp)) | (refine g_slc ?_; ((first | refine s_slcB ?_ | refine s_slcB01 ?_ | refine s_slcB10 ?_); intro us hus hbs)) | (refine g_pure ?_; first | refine s_pure ?_ | refine s_saddB ?_) | (refine g_hload ?_; refine s_hloadP ?_) | (refine g_hstore ?_; (refine s_hstoreB ?_; intro G' hle ho hkp))) | (with_reducible refine i_vc ?_; first | refine v_seq ?_ | refine v_ops ?_ | (refine g_cond ?_; first | refine s_cond_t ?_ | refine s_cond_f ?_) | refine v_block ?_ | refine v_skip ?_ | refine v_exit ?_ | refine v_ret ?_ | refine s_drawl ?_ | refine v_draw0 ?_) | (with_reducible refine i_plan ?_; first | refine p_done ?_ | refine s_pre ?_ | refine s_preN ?_ | refine s_ag_t ?_ | refine s_ag_f ?_) | (with_reducible first | refine n_then ?_ | refine r_then ?_ | refine e_then ?_ | refine n_block ?_ | refine r_block ?_ | refine e_block_eq (by with_unfolding_all rfl) ?_ | refine e_block_ne (by with_unfolding_all rfl) ?_) | ((with_reducible first | refine s_g_c ?_ ?_ | refine s_cond_c ?_ ?_ | refine s_tg_c ?_ ?_ | refine s_ag_c ?_ ?_) <;> intro hb <;> rw [hb] <;> (try simp only [decide_eq_true_eq, decide_eq_false_iff_not, beq_iff_eq, bne_iff_ne, beq_eq_false_iff_ne, bne_eq_false_iff_eq, ne_eq, Int.not_lt, Int.not_le, gt_iff_lt, ge_iff_le, Bool.not_eq_true', Bool.not_eq_false'] at hb)) | ((with_reducible first | refine s_ret ?_ | refine s_normal ?_); try simp only [x_tup0, x_tup1, x_tup2, x_tup3, x_tup4, x_tup5, and_true, true_and])))
    · exact ⟨hk2, .inl ⟨xss[i], List.getElem_mem (by omega), by unfold ln; omega⟩⟩
    · refine ⟨bs.length - (i + 1), by omega, (i + 1, H2), rfl, ⟨hi, hk2, hk3, fun j hj => ⟨hk4 j hj, fun h => ?_⟩⟩, (by refine ⟨SL.get_fn (by with_unfolding_all rfl), SL.get_fn (by with_unfolding_all rfl), SL.get_fn (by with_unfolding_all rfl), trivial⟩), trivial, rfl⟩
      by_cases hji : j = i
      · subst hji; unfold ln; omega
      · exact (k4 j hj).2 (by omega)
  · have hi : i = bs.length := by omega
    subst hi
    refine ⟨k2, .inr ⟨fun xs hx => ?_, fun j hj => ?_⟩⟩
    · obtain ⟨j, hj, rfl⟩ := List.mem_iff_getElem.1 hx
      exact (k4 j (by omega)).2 (by omega)
    · rw [(k4 j hj).1, if_pos hj]
/-- Two numbers that are boxed: the beginning of many functions. -/
theorem may2 (w ua ub : Value) (b1 b2 : Nat) (al bs : List Nat) (e : TypeId) (G0 G : GH) (h0 : G0.le G) (hw : Own 1 G0 G w [pt b1, pt b2]) (hwb : blkS w ≠ some b1 ∧ blkS w ≠ some b2) (n1 : G0 b1 = none) (n2 : G0 b2 = none) (hne : b1 ≠ b2)
    (c1 : G b1 = some (bx ua e)) (c2 : G b2 = some (bx ub e)) (ha : Nu .u64 G0 ua al) (hb : Nu .u64 G0 ub bs) (da : Dl 18446744073709551616 al) (db : Dl 18446744073709551616 bs) :
    HC Tryd.prog 25 #[w] G fun v G' => G0.le G' ∧ ((v = .bool false ∧ ¬ (ln al ≤ 64 ∧ ln bs ≤ 64)) ∨ (v = .bool true ∧ (ln al ≤ 64 ∧ ln bs ≤ 64) ∧ G' b1 = some (bx (trimS ua (ln al)) e) ∧ G' b2 = some (bx (trimS ub (ln bs)) e))) := by
  refine (may w [b1, b2] [ua, ub] [al, bs] e G0 G h0 rfl rfl hw.sl ?_ ?_ (by simp [hne])).mono ?_
  · intro b hb
    simp at hb
    rcases hb with rfl | rfl
    · exact hwb.1
    · exact hwb.2
  · intro j hj
    match j, hj with
    | 0, _ => exact ⟨n1, c1, ha, da⟩
    | 1, _ => exact ⟨n2, c2, hb, db⟩
  · rintro v G' ⟨h1, ⟨h2, h3⟩ | ⟨h2, h3, h4⟩⟩
    · refine ⟨h1, .inl ⟨h2, ?_⟩⟩
      obtain ⟨xs, hx, hl⟩ := h3
      simp at hx
      rcases hx with rfl | rfl <;> omega
    · exact ⟨h1, .inr ⟨h2, ⟨h3 al (by simp), h3 bs (by simp)⟩, h4 0 (by simp), h4 1 (by simp)⟩⟩
/-- Numbers that may be. -/
abbrev ok64 (al bl : List Nat) : Prop := ln al ≤ 64 ∧ ln bl ≤ 64
end Go.Proofs.YtfacphjjkanajaaDoor.V
