/- Two words divided by one. -/
import Derived.Test.YtiijcncdjjdglaaGNK
set_option linter.unusedSimpArgs false
set_option linter.unusedVariables false
-- @nums
-- @extra s_wshrc s_wshr s_wshlc s_wshl s_waddc s_wadd s_wsubc s_wsub s_wmulc s_wmull s_wmul s_wquo s_wrem s_wand32 s_wor' s_wconv s_wsubl
namespace Go.Proofs.Ytiijcncdjjdglaa.V
open Go.RowKit Go.ChangeShapes Go.WideShapes
theorem wrapsub {a b p m : Nat} (h : m + p = a * 4294967296 + b) (hm : m < 18446744073709551616) : ((a * 4294967296 % 18446744073709551616 + b) % 18446744073709551616 + 18446744073709551616 - p % 18446744073709551616) % 18446744073709551616 = m := by omega
theorem wrapsub1 {a p m : Nat} (h : p + m = a) (hm : m < 18446744073709551616) (ha : a < 18446744073709551616) : (a + 18446744073709551616 - p % 18446744073709551616) % 18446744073709551616 = m := by omega
theorem two_halves {U1 un1 un0 Y q1 U21 : Nat} (h : U21 + q1 * Y = U1 * 4294967296 + un1) (hY : 0 < Y) : (U1 * 18446744073709551616 + (un1 * 4294967296 + un0)) / Y = q1 * 4294967296 + (U21 * 4294967296 + un0) / Y ∧ (U1 * 18446744073709551616 + (un1 * 4294967296 + un0)) % Y = (U21 * 4294967296 + un0) % Y := by
  have e : U1 * 18446744073709551616 + (un1 * 4294967296 + un0) = (U21 * 4294967296 + un0) + Y * (q1 * 4294967296) := by
    have h2 : Y * (q1 * 4294967296) = q1 * Y * 4294967296 := by rw [← Nat.mul_assoc, Nat.mul_comm Y]
    rw [h2]; omega
  rw [e, Nat.add_mul_div_left _ _ hY, Nat.add_mul_mod_self_left]
  exact ⟨Nat.add_comm _ _, rfl⟩
/-- From the second half's loop on: its end. -/
theorem div64C (s Y U21 un0 q1 q0 : Nat) (G : GH) (sl : Nat → Value) (ll : Nat → Array Value) (R : Value → GH → Prop) (hY : Y < 18446744073709551616) (h1 : q1 < 4294967296) (h0 : q0 < 4294967296) (hu : U21 < Y) (hu0 : un0 < 4294967296) (hq : q0 = (U21 * 4294967296 + un0) / Y)
    (hR : R (.tuple #[iv .u64 (q1 * 4294967296 + q0), iv .u64 ((U21 * 4294967296 + un0) % Y / 2 ^ s)]) G) :
    vc Try.prog E69 (sndN 19 pc69) (endQ [.slot 6, .slot 7] R) (S (SL.sets sl [(2, iv .u64 Y), (8, iv .u64 s), (14, iv .u64 un0), (15, iv .u64 q1), (17, iv .u64 U21), (18, iv .u64 q0)]) (AL.sets ll []) G) := by
  have hm := Nat.mod_add_div (U21 * 4294967296 + un0) Y
  have hml := Nat.mod_lt (U21 * 4294967296 + un0) (show Y > 0 by omega)
  rw [← hq, Nat.mul_comm Y q0] at hm
  unfold pc69
  simp only [sndN, SL.sets, AL.sets]
  generalize (U21 * 4294967296 + un0) % Y = m at *
  (repeat' (first | (with_reducible refine i_ops ?_; first | (refine g_mv ?_; refine s_mv ?_) | refine o_nil ?_ | (refine g_some ?_; first | refine s_g_t ?_ | refine s_g_f ?_ | refine s_g_f' ?_ | refine s_g_u ?_) | (refine g_pick ?_; first | refine s_pick_t ?_ | refine s_pick_f ?_) | (refine g_pure ?_; first | refine s_wshrc ?_ | refine s_wshr ?_ | refine s_wshlc ?_ | refine s_wshl ?_ | refine s_waddc ?_ | refine s_wadd ?_ | refine s_wsubc ?_ | refine s_wsub ?_ | refine s_wmulc ?_ | refine s_wmull ?_ | refine s_wmul ?_ | refine s_wquo ?_ | refine s_wrem ?_ | refine s_wand32 ?_ | refine s_wor' ?_ | refine s_wconv ?_ | refine s_wsubl ?_ | refine s_pure ?_ | refine s_saddB ?_) | (refine g_hload ?_; refine s_hloadP ?_)) | (with_reducible refine i_vc ?_; first | refine v_seq ?_ | refine v_ops ?_ | (refine g_cond ?_; first | refine s_cond_t ?_ | refine s_cond_f ?_) | refine v_block ?_ | refine v_skip ?_ | refine v_exit ?_ | refine v_ret ?_ | refine s_drawl ?_ | refine v_draw0 ?_) | (with_reducible refine i_plan ?_; first | refine p_done ?_ | refine s_pre ?_ | refine s_preN ?_ | refine s_ag_t ?_ | refine s_ag_f ?_) | (with_reducible first | refine n_then ?_ | refine r_then ?_ | refine e_then ?_ | refine n_block ?_ | refine r_block ?_ | refine e_block_eq (by with_unfolding_all rfl) ?_ | refine e_block_ne (by with_unfolding_all rfl) ?_) | ((with_reducible first | refine s_g_c ?_ ?_ | refine s_cond_c ?_ ?_ | refine s_tg_c ?_ ?_ | refine s_ag_c ?_ ?_) <;> intro hb <;> rw [hb] <;> (try simp only [decide_eq_true_eq, decide_eq_false_iff_not, beq_iff_eq, bne_iff_ne, beq_eq_false_iff_ne, bne_eq_false_iff_eq, ne_eq, Int.not_lt, Int.not_le, gt_iff_lt, ge_iff_le, Bool.not_eq_true', Bool.not_eq_false'] at hb)) | ((with_reducible first | refine s_ret ?_ | refine s_normal ?_); try simp only [x_tup0, x_tup1, x_tup2, x_tup3, x_tup4, x_tup5, and_true, true_and])))
  have e1 : (q1 * 4294967296 % 18446744073709551616 + q0) % 18446744073709551616 = q1 * 4294967296 + q0 := by omega
  have e2 : ((U21 * 4294967296 % 18446744073709551616 + un0) % 18446744073709551616 + 18446744073709551616 - q0 * Y % 18446744073709551616) % 18446744073709551616 = m := by omega
  rw [e1, e2]; exact hR
/-- From the first half's loop on: its end. -/
theorem div64B (s Y y1 y0 U1 un1 un0 q1 : Nat) (G : GH) (sl : Nat → Value) (ll : Nat → Array Value) (R : Value → GH → Prop) (hY : Y = y1 * 4294967296 + y0) (hy1 : 2147483648 ≤ y1) (hy1' : y1 < 4294967296) (hy0 : y0 < 4294967296) (hu : U1 < Y) (hu1 : un1 < 4294967296) (hu0 : un0 < 4294967296) (hq : q1 = (U1 * 4294967296 + un1) / Y)
    (hR : R (.tuple #[iv .u64 ((U1 * 18446744073709551616 + (un1 * 4294967296 + un0)) / Y), iv .u64 ((U1 * 18446744073709551616 + (un1 * 4294967296 + un0)) % Y / 2 ^ s)]) G) :
    vc Try.prog E69 (sndN 15 pc69) (endQ [.slot 6, .slot 7] R) (S (SL.sets sl [(2, iv .u64 Y), (8, iv .u64 s), (9, iv .u64 y1), (10, iv .u64 y0), (11, iv .u64 U1), (13, iv .u64 un1), (14, iv .u64 un0), (15, iv .u64 q1)]) (AL.sets ll []) G) := by
  have hm := Nat.mod_add_div (U1 * 4294967296 + un1) Y
  have hml := Nat.mod_lt (U1 * 4294967296 + un1) (show Y > 0 by omega)
  have hq1 : q1 < 4294967296 := by rw [hq]; exact (Nat.div_lt_iff_lt_mul (by omega)).2 (by omega)
  rw [← hq, Nat.mul_comm Y q1] at hm
  have e1 : ((U1 * 4294967296 % 18446744073709551616 + un1) % 18446744073709551616 + 18446744073709551616 - q1 * Y % 18446744073709551616) % 18446744073709551616 = (U1 * 4294967296 + un1) % Y := wrapsub hm (Nat.lt_trans hml (by omega))
  obtain ⟨U21, hU21⟩ : ∃ m, m = (U1 * 4294967296 + un1) % Y := ⟨_, rfl⟩
  rw [← hU21] at hm hml e1
  obtain ⟨g1, g2⟩ := two_halves (un0 := un0) hm (show 0 < Y by omega)
  rw [g1, g2] at hR
  obtain ⟨hi1, hi2⟩ := half_init (N := U21 * 4294967296 + un0) rfl hu0 (by omega) hy1 hy0
  rw [← hY] at hi1
  have hdm := Nat.div_add_mod U21 y1
  have hrl := Nat.mod_lt U21 (show y1 > 0 by omega)
  unfold pc69
  simp only [sndN, SL.sets, AL.sets]
  (repeat (first | (with_reducible refine i_ops ?_; first | (refine g_mv ?_; refine s_mv ?_) | refine o_nil ?_) | (with_reducible refine i_vc ?_; first | refine v_seq ?_ | refine v_ops ?_ | (refine g_cond ?_; first | refine s_cond_t ?_ | refine s_cond_f ?_) | refine v_block ?_ | refine v_skip ?_ | refine v_exit ?_ | refine v_ret ?_ | refine s_drawl ?_ | refine v_draw0 ?_) | (with_reducible first | refine n_then ?_ | refine r_then ?_ | refine e_then ?_ | refine n_block ?_ | refine r_block ?_ | refine e_block_eq (by with_unfolding_all rfl) ?_ | refine e_block_ne (by with_unfolding_all rfl) ?_)))
  refine s_wmulc ?_
  (repeat (first | (with_reducible refine i_ops ?_; first | (refine g_mv ?_; refine s_mv ?_) | refine o_nil ?_) | (with_reducible refine i_vc ?_; first | refine v_seq ?_ | refine v_ops ?_ | (refine g_cond ?_; first | refine s_cond_t ?_ | refine s_cond_f ?_) | refine v_block ?_ | refine v_skip ?_ | refine v_exit ?_ | refine v_ret ?_ | refine s_drawl ?_ | refine v_draw0 ?_) | (with_reducible first | refine n_then ?_ | refine r_then ?_ | refine e_then ?_ | refine n_block ?_ | refine r_block ?_ | refine e_block_eq (by with_unfolding_all rfl) ?_ | refine e_block_ne (by with_unfolding_all rfl) ?_)))
  refine s_wadd ?_
  (repeat (first | (with_reducible refine i_ops ?_; first | (refine g_mv ?_; refine s_mv ?_) | refine o_nil ?_) | (with_reducible refine i_vc ?_; first | refine v_seq ?_ | refine v_ops ?_ | (refine g_cond ?_; first | refine s_cond_t ?_ | refine s_cond_f ?_) | refine v_block ?_ | refine v_skip ?_ | refine v_exit ?_ | refine v_ret ?_ | refine s_drawl ?_ | refine v_draw0 ?_) | (with_reducible first | refine n_then ?_ | refine r_then ?_ | refine e_then ?_ | refine n_block ?_ | refine r_block ?_ | refine e_block_eq (by with_unfolding_all rfl) ?_ | refine e_block_ne (by with_unfolding_all rfl) ?_)))
  refine s_wmul ?_
  refine s_wsub ?_
  rw [e1]
  (repeat (first | (with_reducible refine i_ops ?_; first | (refine g_mv ?_; refine s_mv ?_) | refine o_nil ?_) | (with_reducible refine i_vc ?_; first | refine v_seq ?_ | refine v_ops ?_ | (refine g_cond ?_; first | refine s_cond_t ?_ | refine s_cond_f ?_) | refine v_block ?_ | refine v_skip ?_ | refine v_exit ?_ | refine v_ret ?_ | refine s_drawl ?_ | refine v_draw0 ?_) | (with_reducible first | refine n_then ?_ | refine r_then ?_ | refine e_then ?_ | refine n_block ?_ | refine r_block ?_ | refine e_block_eq (by with_unfolding_all rfl) ?_ | refine e_block_ne (by with_unfolding_all rfl) ?_)))
  refine s_wquo ?_
  (repeat (first | (with_reducible refine i_ops ?_; first | (refine g_mv ?_; refine s_mv ?_) | refine o_nil ?_) | (with_reducible refine i_vc ?_; first | refine v_seq ?_ | refine v_ops ?_ | (refine g_cond ?_; first | refine s_cond_t ?_ | refine s_cond_f ?_) | refine v_block ?_ | refine v_skip ?_ | refine v_exit ?_ | refine v_ret ?_ | refine s_drawl ?_ | refine v_draw0 ?_) | (with_reducible first | refine n_then ?_ | refine r_then ?_ | refine e_then ?_ | refine n_block ?_ | refine r_block ?_ | refine e_block_eq (by with_unfolding_all rfl) ?_ | refine e_block_ne (by with_unfolding_all rfl) ?_)))
  refine s_wmul ?_
  refine s_wsub ?_
  have e3 : (U21 + 18446744073709551616 - U21 / y1 * y1 % 18446744073709551616) % 18446744073709551616 = U21 % y1 := wrapsub1 (by rw [Nat.mul_comm]; exact hdm) (Nat.lt_trans hrl (by omega)) (by omega)
  rw [e3]
  (repeat (first | (with_reducible refine i_ops ?_; first | (refine g_mv ?_; refine s_mv ?_) | refine o_nil ?_) | (with_reducible refine i_vc ?_; first | refine v_seq ?_ | refine v_ops ?_ | (refine g_cond ?_; first | refine s_cond_t ?_ | refine s_cond_f ?_) | refine v_block ?_ | refine v_skip ?_ | refine v_exit ?_ | refine v_ret ?_ | refine s_drawl ?_ | refine v_draw0 ?_) | (with_reducible first | refine n_then ?_ | refine r_then ?_ | refine e_then ?_ | refine n_block ?_ | refine r_block ?_ | refine e_block_eq (by with_unfolding_all rfl) ?_ | refine e_block_ne (by with_unfolding_all rfl) ?_)))
  have hT := div64C
  unfold pc69 at hT
  simp only [sndN, SL.sets, AL.sets] at hT
  generalize hQ : thenQ (vc Try.prog E69 _ _) _ = Q'
  refine v_loopX (α := Nat × Nat) (fun x => x.1 * y1 + x.2 = U21 ∧ (U21 * 4294967296 + un0) / Y ≤ x.1 ∧ x.1 ≤ 4294967297 ∧ x.2 < 4294967296) (fun x => [(2, iv .u64 Y), (8, iv .u64 s), (9, iv .u64 y1), (10, iv .u64 y0), (14, iv .u64 un0), (15, iv .u64 q1), (16, iv .u64 x.2), (17, iv .u64 U21), (18, iv .u64 x.1)]) (fun _ => []) (fun _ => G) (fun x => x.1) (U21 / y1, U21 % y1)
    ⟨by rw [Nat.mul_comm]; exact hdm, hi1, hi2, by dsimp only; omega⟩ (by refine ⟨SL.get_fn (by with_unfolding_all rfl), SL.get_fn (by with_unfolding_all rfl), SL.get_fn (by with_unfolding_all rfl), SL.get_fn (by with_unfolding_all rfl), SL.get_fn (by with_unfolding_all rfl), SL.get_fn (by with_unfolding_all rfl), SL.get_fn (by with_unfolding_all rfl), SL.get_fn (by with_unfolding_all rfl), SL.get_fn (by with_unfolding_all rfl), trivial⟩) trivial rfl ?_
  rintro ⟨q, r⟩ s2 l2 ⟨k1, k2, k3, k4⟩
  dsimp only at k1 k2 k3 k4
  dsimp only [SL.sets, AL.sets]
  have hp : q < 4294967296 → q * y0 ≤ 4294967295 * 4294967295 := fun h => Nat.mul_le_mul (by omega) (by omega)
  (repeat' (first | (with_reducible refine i_ops ?_; first | (refine g_mv ?_; refine s_mv ?_) | refine o_nil ?_ | (refine g_some ?_; first | refine s_g_t ?_ | refine s_g_f ?_ | refine s_g_f' ?_ | refine s_g_u ?_) | (refine g_pick ?_; first | refine s_pick_t ?_ | refine s_pick_f ?_) | (refine g_pure ?_; first | refine s_wshrc ?_ | refine s_wshr ?_ | refine s_wshlc ?_ | refine s_wshl ?_ | refine s_waddc ?_ | refine s_wadd ?_ | refine s_wsubc ?_ | refine s_wsub ?_ | refine s_wmulc ?_ | refine s_wmull ?_ | refine s_wmul ?_ | refine s_wquo ?_ | refine s_wrem ?_ | refine s_wand32 ?_ | refine s_wor' ?_ | refine s_wconv ?_ | refine s_wsubl ?_ | refine s_pure ?_ | refine s_saddB ?_) | (refine g_hload ?_; refine s_hloadP ?_)) | (with_reducible refine i_vc ?_; first | refine v_seq ?_ | refine v_ops ?_ | (refine g_cond ?_; first | refine s_cond_t ?_ | refine s_cond_f ?_) | refine v_block ?_ | refine v_skip ?_ | refine v_exit ?_ | refine v_ret ?_ | refine s_drawl ?_ | refine v_draw0 ?_) | (with_reducible refine i_plan ?_; first | refine p_done ?_ | refine s_pre ?_ | refine s_preN ?_ | refine s_ag_t ?_ | refine s_ag_f ?_) | (with_reducible first | refine n_then ?_ | refine r_then ?_ | refine e_then ?_ | refine n_block ?_ | refine r_block ?_ | refine e_block_eq (by with_unfolding_all rfl) ?_ | refine e_block_ne (by with_unfolding_all rfl) ?_) | ((with_reducible first | refine s_g_c ?_ ?_ | refine s_cond_c ?_ ?_ | refine s_tg_c ?_ ?_ | refine s_ag_c ?_ ?_) <;> intro hb <;> rw [hb] <;> (try simp only [decide_eq_true_eq, decide_eq_false_iff_not, beq_iff_eq, bne_iff_ne, beq_eq_false_iff_ne, bne_eq_false_iff_eq, ne_eq, Int.not_lt, Int.not_le, gt_iff_lt, ge_iff_le, Bool.not_eq_true', Bool.not_eq_false'] at hb)) | ((with_reducible first | refine s_ret ?_ | refine s_normal ?_); try simp only [x_tup0, x_tup1, x_tup2, x_tup3, x_tup4, x_tup5, and_true, true_and])))
  rotate_right
  · have hq0 : q = (U21 * 4294967296 + un0) / Y := by
      rw [hY] at k2 ⊢; exact half_eq rfl hu0 (by omega) k1 k2 (by omega)
    have hql : q < 4294967296 := by omega
    subst hQ
    refine n_then ?_
    refine v_trim [(2, iv .u64 Y), (8, iv .u64 s), (14, iv .u64 un0), (15, iv .u64 q1), (17, iv .u64 U21), (18, iv .u64 q)] [] (by refine ⟨SL.get_fn (by with_unfolding_all rfl), SL.get_fn (by with_unfolding_all rfl), SL.get_fn (by with_unfolding_all rfl), SL.get_fn (by with_unfolding_all rfl), SL.get_fn (by with_unfolding_all rfl), SL.get_fn (by with_unfolding_all rfl), trivial⟩) trivial ?_
    intro s3 l3
    rw [← hq0] at hR
    exact hT s Y U21 un0 q1 q G s3 l3 R (by omega) hq1 hql hml hu0 hq0 hR
  all_goals
    have hcond : 4294967296 ≤ q ∨ 4294967296 * r + un0 < q * y0 := by omega
    have hbig := half_big (N := U21 * 4294967296 + un0) rfl hu0 (by omega) (show 0 < y1 by omega) k1 hcond
    rw [← hY] at hbig
    have hq0 : 0 < q := by
      rcases Nat.eq_zero_or_pos q with h | h
      · rw [h] at hcond; omega
      · exact h
    have md := mul_dec (y := y1) hq0
    rw [show (q + 18446744073709551616 - 1) % 18446744073709551616 = q - 1 by omega, show (r + y1) % 18446744073709551616 = r + y1 by omega]
    rw [show (r + y1) % 18446744073709551616 = r + y1 by omega] at hb
    clear hcond
    first
      | (have hb2 : r + y1 < 4294967296 := by omega
         refine ⟨q - 1, by omega, (q - 1, r + y1), rfl, ⟨by dsimp only; omega, hbig, by dsimp only; omega, hb2⟩, (by refine ⟨SL.get_fn (by with_unfolding_all rfl), SL.get_fn (by with_unfolding_all rfl), SL.get_fn (by with_unfolding_all rfl), SL.get_fn (by with_unfolding_all rfl), SL.get_fn (by with_unfolding_all rfl), SL.get_fn (by with_unfolding_all rfl), SL.get_fn (by with_unfolding_all rfl), SL.get_fn (by with_unfolding_all rfl), SL.get_fn (by with_unfolding_all rfl), trivial⟩), trivial, rfl⟩)
      | (have hp2 : (q - 1) * y0 ≤ 4294967296 * 4294967295 := Nat.mul_le_mul (by omega) (by omega)
         have hqe : q - 1 = (U21 * 4294967296 + un0) / Y := by
           rw [hY] at hbig ⊢; exact half_eq rfl hu0 (by omega) (r := r + y1) (by omega) hbig (by omega)
         have hql : q - 1 < 4294967296 := by rw [hqe]; exact (Nat.div_lt_iff_lt_mul (by omega)).2 (by omega)
         subst hQ
         refine n_then ?_
         refine v_trim [(2, iv .u64 Y), (8, iv .u64 s), (14, iv .u64 un0), (15, iv .u64 q1), (17, iv .u64 U21), (18, iv .u64 (q - 1))] [] (by refine ⟨SL.get_fn (by with_unfolding_all rfl), SL.get_fn (by with_unfolding_all rfl), SL.get_fn (by with_unfolding_all rfl), SL.get_fn (by with_unfolding_all rfl), SL.get_fn (by with_unfolding_all rfl), SL.get_fn (by with_unfolding_all rfl), trivial⟩) trivial ?_
         intro s3 l3
         rw [← hqe] at hR
         exact hT s Y U21 un0 q1 (q - 1) G s3 l3 R (by omega) hq1 hql hml hu0 hqe hR)
end Go.Proofs.Ytiijcncdjjdglaa.V
