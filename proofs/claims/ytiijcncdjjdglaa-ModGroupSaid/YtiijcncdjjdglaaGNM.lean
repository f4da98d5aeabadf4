/- Two words divided by one: the whole. -/
import Derived.Test.YtiijcncdjjdglaaGNL
set_option linter.unusedSimpArgs false
set_option linter.unusedVariables false
-- @nums
-- @extra s_wshrc s_wshr s_wshlc s_wshl s_waddc s_wadd s_wsubc s_wsub s_wmulc s_wmull s_wmul s_wquo s_wrem s_wand32 s_wor' s_wconv s_wsubl
namespace Go.Proofs.Ytiijcncdjjdglaa.V
open Go.RowKit Go.ChangeShapes Go.WideShapes
/-- Two words, moved up: the upper word, the lower one. -/
theorem up_words {hi lo y s : Nat} (hs : s ≤ 63) (hhi : hi < y) (hlo : lo < 18446744073709551616) (hy : y * 2 ^ s < 18446744073709551616) :
    ((hi * 2 ^ s) % 18446744073709551616 ||| lo / 2 ^ ((64 + 18446744073709551616 - s) % 18446744073709551616)) = (hi * 18446744073709551616 + lo) * 2 ^ s / 18446744073709551616 ∧ (lo * 2 ^ s) % 18446744073709551616 = (hi * 18446744073709551616 + lo) * 2 ^ s % 18446744073709551616 ∧ (hi * 18446744073709551616 + lo) * 2 ^ s / 18446744073709551616 < y * 2 ^ s := by
  have hp : 0 < 2 ^ s := Nat.two_pow_pos s
  have h1 : hi * 2 ^ s < y * 2 ^ s := Nat.mul_lt_mul_of_pos_right hhi hp
  have e1 : (64 + 18446744073709551616 - s) % 18446744073709551616 = 64 - s := by omega
  have e2 : (hi * 2 ^ s) % 18446744073709551616 = hi * 2 ^ s := Nat.mod_eq_of_lt (by omega)
  have e3 : (2 : Nat) ^ (64 - s) * 2 ^ s = 18446744073709551616 := by rw [← Nat.pow_add, show 64 - s + s = 64 by omega]
  have hb : lo / 2 ^ (64 - s) < 2 ^ s := (Nat.div_lt_iff_lt_mul (Nat.two_pow_pos _)).2 (by rw [Nat.mul_comm, e3]; exact hlo)
  have hor : (hi * 2 ^ s ||| lo / 2 ^ (64 - s)) = hi * 2 ^ s + lo / 2 ^ (64 - s) := by
    rw [Nat.mul_comm hi]; exact (Nat.two_pow_add_eq_or_of_lt hb hi).symm
  have e4 : (hi * 18446744073709551616 + lo) * 2 ^ s = lo * 2 ^ s + 18446744073709551616 * (hi * 2 ^ s) := by rw [Nat.add_mul, Nat.mul_comm hi, Nat.mul_assoc]; omega
  have e5 : lo * 2 ^ s / 18446744073709551616 = lo / 2 ^ (64 - s) := by rw [← e3]; exact Nat.mul_div_mul_right _ _ hp
  have e6 : (hi * 18446744073709551616 + lo) * 2 ^ s / 18446744073709551616 = hi * 2 ^ s + lo / 2 ^ (64 - s) := by rw [e4, Nat.add_mul_div_left _ _ (by decide), e5, Nat.add_comm]
  refine ⟨by rw [e1, e2, hor, e6], by rw [e4, Nat.add_mul_mod_self_left], ?_⟩
  rw [e6]
  have h2 : (hi + 1) * 2 ^ s ≤ y * 2 ^ s := Nat.mul_le_mul_right _ hhi
  rw [Nat.add_mul, Nat.one_mul] at h2
  omega
theorem Div64 (hi lo y : Nat) (G : GH) (hhi : hi < y) (hlo : lo < 18446744073709551616) (hy : y < 18446744073709551616) : HC Try.prog 69 #[iv .u64 hi, iv .u64 lo, iv .u64 y] G fun v G' => v = .tuple #[iv .u64 ((hi * 18446744073709551616 + lo) / y), iv .u64 ((hi * 18446744073709551616 + lo) % y)] ∧ G' = G := by
  refine HC.start comp69 rfl ?_; unfold pc69
  (repeat' (first | (with_reducible refine i_ops ?_; first | (refine g_mv ?_; refine s_mv ?_) | refine o_nil ?_ | (refine g_some ?_; first | refine s_g_t ?_ | refine s_g_f ?_ | refine s_g_f' ?_ | refine s_g_u ?_) | (refine g_pick ?_; first | refine s_pick_t ?_ | refine s_pick_f ?_) | (refine g_pure ?_; first | refine s_wshrc ?_ | refine s_wshr ?_ | refine s_wshlc ?_ | refine s_wshl ?_ | refine s_waddc ?_ | refine s_wadd ?_ | refine s_wsubc ?_ | refine s_wsub ?_ | refine s_wmulc ?_ | refine s_wmull ?_ | refine s_wmul ?_ | refine s_wquo ?_ | refine s_wrem ?_ | refine s_wand32 ?_ | refine s_wor' ?_ | refine s_wconv ?_ | refine s_wsubl ?_ | refine s_pure ?_ | refine s_saddB ?_) | (refine g_hload ?_; refine s_hloadP ?_)) | (with_reducible refine i_vc ?_; first | refine v_seq ?_ | refine v_ops ?_ | (refine g_cond ?_; first | refine s_cond_t ?_ | refine s_cond_f ?_) | refine v_block ?_ | refine v_skip ?_ | refine v_exit ?_ | refine v_ret ?_ | refine s_drawl ?_ | refine v_draw0 ?_) | (with_reducible refine i_plan ?_; first | refine p_done ?_ | refine s_pre ?_ | refine s_preN ?_ | refine s_ag_t ?_ | refine s_ag_f ?_) | (with_reducible first | refine n_then ?_ | refine r_then ?_ | refine e_then ?_ | refine n_block ?_ | refine r_block ?_ | refine e_block_eq (by with_unfolding_all rfl) ?_ | refine e_block_ne (by with_unfolding_all rfl) ?_) | ((with_reducible first | refine s_g_c ?_ ?_ | refine s_cond_c ?_ ?_ | refine s_tg_c ?_ ?_ | refine s_ag_c ?_ ?_) <;> intro hb <;> rw [hb] <;> (try simp only [decide_eq_true_eq, decide_eq_false_iff_not, beq_iff_eq, bne_iff_ne, beq_eq_false_iff_ne, bne_eq_false_iff_eq, ne_eq, Int.not_lt, Int.not_le, gt_iff_lt, ge_iff_le, Bool.not_eq_true', Bool.not_eq_false'] at hb)) | ((with_reducible first | refine s_ret ?_ | refine s_normal ?_); try simp only [x_tup0, x_tup1, x_tup2, x_tup3, x_tup4, x_tup5, and_true, true_and])))
  · exfalso; omega
  · exfalso; omega
  · have h0 : hi = 0 := by omega
    subst h0
    rw [Nat.zero_mul, Nat.zero_add]
  refine o_callc (by with_unfolding_all rfl) (LeadingZeros64s y G hy (by omega)) ?_
  rintro _ _ ⟨rfl, s, rfl, hs, hy1, hy2⟩
  obtain ⟨u1, u2, u3⟩ := up_words hs hhi hlo hy2
  obtain ⟨N, hN⟩ : ∃ N, N = (hi * 18446744073709551616 + lo) * 2 ^ s := ⟨_, rfl⟩
  rw [← hN] at u1 u2 u3
  have hfin : (hi * 18446744073709551616 + lo) / y = N / (y * 2 ^ s) ∧ (hi * 18446744073709551616 + lo) % y = N % (y * 2 ^ s) / 2 ^ s := by
    have hp : 0 < 2 ^ s := Nat.two_pow_pos s
    rw [hN, Nat.mul_div_mul_right _ _ hp, Nat.mul_mod_mul_right, Nat.mul_div_cancel _ hp]
    exact ⟨rfl, rfl⟩
  rw [hfin.1, hfin.2]
  obtain ⟨Y, hY⟩ : ∃ Y, Y = y * 2 ^ s := ⟨_, rfl⟩
  rw [← hY] at hy1 hy2 u3 ⊢
  have eY : (y * 2 ^ s) % 18446744073709551616 = Y := by rw [hY]; exact Nat.mod_eq_of_lt (by omega)
  (repeat (first | (with_reducible refine i_ops ?_; first | (refine g_mv ?_; refine s_mv ?_) | refine o_nil ?_) | (with_reducible refine i_vc ?_; first | refine v_seq ?_ | refine v_ops ?_ | (refine g_cond ?_; first | refine s_cond_t ?_ | refine s_cond_f ?_) | refine v_block ?_ | refine v_skip ?_ | refine v_exit ?_ | refine v_ret ?_ | refine s_drawl ?_ | refine v_draw0 ?_) | (with_reducible first | refine n_then ?_ | refine r_then ?_ | refine e_then ?_ | refine n_block ?_ | refine r_block ?_ | refine e_block_eq (by with_unfolding_all rfl) ?_ | refine e_block_ne (by with_unfolding_all rfl) ?_)))
  refine s_wconv ?_
  (repeat (first | (with_reducible refine i_ops ?_; first | (refine g_mv ?_; refine s_mv ?_) | refine o_nil ?_) | (with_reducible refine i_vc ?_; first | refine v_seq ?_ | refine v_ops ?_ | (refine g_cond ?_; first | refine s_cond_t ?_ | refine s_cond_f ?_) | refine v_block ?_ | refine v_skip ?_ | refine v_exit ?_ | refine v_ret ?_ | refine s_drawl ?_ | refine v_draw0 ?_) | (with_reducible first | refine n_then ?_ | refine r_then ?_ | refine e_then ?_ | refine n_block ?_ | refine r_block ?_ | refine e_block_eq (by with_unfolding_all rfl) ?_ | refine e_block_ne (by with_unfolding_all rfl) ?_)))
  refine s_wshl ?_
  rw [eY]
  (repeat (first | (with_reducible refine i_ops ?_; first | (refine g_mv ?_; refine s_mv ?_) | refine o_nil ?_) | (with_reducible refine i_vc ?_; first | refine v_seq ?_ | refine v_ops ?_ | (refine g_cond ?_; first | refine s_cond_t ?_ | refine s_cond_f ?_) | refine v_block ?_ | refine v_skip ?_ | refine v_exit ?_ | refine v_ret ?_ | refine s_drawl ?_ | refine v_draw0 ?_) | (with_reducible first | refine n_then ?_ | refine r_then ?_ | refine e_then ?_ | refine n_block ?_ | refine r_block ?_ | refine e_block_eq (by with_unfolding_all rfl) ?_ | refine e_block_ne (by with_unfolding_all rfl) ?_)))
  refine s_wshrc ?_
  (repeat (first | (with_reducible refine i_ops ?_; first | (refine g_mv ?_; refine s_mv ?_) | refine o_nil ?_) | (with_reducible refine i_vc ?_; first | refine v_seq ?_ | refine v_ops ?_ | (refine g_cond ?_; first | refine s_cond_t ?_ | refine s_cond_f ?_) | refine v_block ?_ | refine v_skip ?_ | refine v_exit ?_ | refine v_ret ?_ | refine s_drawl ?_ | refine v_draw0 ?_) | (with_reducible first | refine n_then ?_ | refine r_then ?_ | refine e_then ?_ | refine n_block ?_ | refine r_block ?_ | refine e_block_eq (by with_unfolding_all rfl) ?_ | refine e_block_ne (by with_unfolding_all rfl) ?_)))
  refine s_wand32 ?_
  (repeat (first | (with_reducible refine i_ops ?_; first | (refine g_mv ?_; refine s_mv ?_) | refine o_nil ?_) | (with_reducible refine i_vc ?_; first | refine v_seq ?_ | refine v_ops ?_ | (refine g_cond ?_; first | refine s_cond_t ?_ | refine s_cond_f ?_) | refine v_block ?_ | refine v_skip ?_ | refine v_exit ?_ | refine v_ret ?_ | refine s_drawl ?_ | refine v_draw0 ?_) | (with_reducible first | refine n_then ?_ | refine r_then ?_ | refine e_then ?_ | refine n_block ?_ | refine r_block ?_ | refine e_block_eq (by with_unfolding_all rfl) ?_ | refine e_block_ne (by with_unfolding_all rfl) ?_)))
  refine s_wshl ?_
  (repeat (first | (with_reducible refine i_ops ?_; first | (refine g_mv ?_; refine s_mv ?_) | refine o_nil ?_) | (with_reducible refine i_vc ?_; first | refine v_seq ?_ | refine v_ops ?_ | (refine g_cond ?_; first | refine s_cond_t ?_ | refine s_cond_f ?_) | refine v_block ?_ | refine v_skip ?_ | refine v_exit ?_ | refine v_ret ?_ | refine s_drawl ?_ | refine v_draw0 ?_) | (with_reducible first | refine n_then ?_ | refine r_then ?_ | refine e_then ?_ | refine n_block ?_ | refine r_block ?_ | refine e_block_eq (by with_unfolding_all rfl) ?_ | refine e_block_ne (by with_unfolding_all rfl) ?_)))
  refine s_wsubl ?_
  refine s_wshr ?_
  have hlo2 := Nat.div_le_self lo (2 ^ ((64 + 18446744073709551616 - s) % 18446744073709551616))
  refine s_wor' ?_
  rw [u1]
  (repeat (first | (with_reducible refine i_ops ?_; first | (refine g_mv ?_; refine s_mv ?_) | refine o_nil ?_) | (with_reducible refine i_vc ?_; first | refine v_seq ?_ | refine v_ops ?_ | (refine g_cond ?_; first | refine s_cond_t ?_ | refine s_cond_f ?_) | refine v_block ?_ | refine v_skip ?_ | refine v_exit ?_ | refine v_ret ?_ | refine s_drawl ?_ | refine v_draw0 ?_) | (with_reducible first | refine n_then ?_ | refine r_then ?_ | refine e_then ?_ | refine n_block ?_ | refine r_block ?_ | refine e_block_eq (by with_unfolding_all rfl) ?_ | refine e_block_ne (by with_unfolding_all rfl) ?_)))
  refine s_wshl ?_
  rw [u2]
  (repeat (first | (with_reducible refine i_ops ?_; first | (refine g_mv ?_; refine s_mv ?_) | refine o_nil ?_) | (with_reducible refine i_vc ?_; first | refine v_seq ?_ | refine v_ops ?_ | (refine g_cond ?_; first | refine s_cond_t ?_ | refine s_cond_f ?_) | refine v_block ?_ | refine v_skip ?_ | refine v_exit ?_ | refine v_ret ?_ | refine s_drawl ?_ | refine v_draw0 ?_) | (with_reducible first | refine n_then ?_ | refine r_then ?_ | refine e_then ?_ | refine n_block ?_ | refine r_block ?_ | refine e_block_eq (by with_unfolding_all rfl) ?_ | refine e_block_ne (by with_unfolding_all rfl) ?_)))
  refine s_wshrc ?_
  (repeat (first | (with_reducible refine i_ops ?_; first | (refine g_mv ?_; refine s_mv ?_) | refine o_nil ?_) | (with_reducible refine i_vc ?_; first | refine v_seq ?_ | refine v_ops ?_ | (refine g_cond ?_; first | refine s_cond_t ?_ | refine s_cond_f ?_) | refine v_block ?_ | refine v_skip ?_ | refine v_exit ?_ | refine v_ret ?_ | refine s_drawl ?_ | refine v_draw0 ?_) | (with_reducible first | refine n_then ?_ | refine r_then ?_ | refine e_then ?_ | refine n_block ?_ | refine r_block ?_ | refine e_block_eq (by with_unfolding_all rfl) ?_ | refine e_block_ne (by with_unfolding_all rfl) ?_)))
  refine s_wand32 ?_
  (repeat (first | (with_reducible refine i_ops ?_; first | (refine g_mv ?_; refine s_mv ?_) | refine o_nil ?_) | (with_reducible refine i_vc ?_; first | refine v_seq ?_ | refine v_ops ?_ | (refine g_cond ?_; first | refine s_cond_t ?_ | refine s_cond_f ?_) | refine v_block ?_ | refine v_skip ?_ | refine v_exit ?_ | refine v_ret ?_ | refine s_drawl ?_ | refine v_draw0 ?_) | (with_reducible first | refine n_then ?_ | refine r_then ?_ | refine e_then ?_ | refine n_block ?_ | refine r_block ?_ | refine e_block_eq (by with_unfolding_all rfl) ?_ | refine e_block_ne (by with_unfolding_all rfl) ?_)))
  refine s_wquo ?_
  (repeat (first | (with_reducible refine i_ops ?_; first | (refine g_mv ?_; refine s_mv ?_) | refine o_nil ?_) | (with_reducible refine i_vc ?_; first | refine v_seq ?_ | refine v_ops ?_ | (refine g_cond ?_; first | refine s_cond_t ?_ | refine s_cond_f ?_) | refine v_block ?_ | refine v_skip ?_ | refine v_exit ?_ | refine v_ret ?_ | refine s_drawl ?_ | refine v_draw0 ?_) | (with_reducible first | refine n_then ?_ | refine r_then ?_ | refine e_then ?_ | refine n_block ?_ | refine r_block ?_ | refine e_block_eq (by with_unfolding_all rfl) ?_ | refine e_block_ne (by with_unfolding_all rfl) ?_)))
  refine s_wmul ?_
  refine s_wsub ?_
  (repeat (first | (with_reducible refine i_ops ?_; first | (refine g_mv ?_; refine s_mv ?_) | refine o_nil ?_) | (with_reducible refine i_vc ?_; first | refine v_seq ?_ | refine v_ops ?_ | (refine g_cond ?_; first | refine s_cond_t ?_ | refine s_cond_f ?_) | refine v_block ?_ | refine v_skip ?_ | refine v_exit ?_ | refine v_ret ?_ | refine s_drawl ?_ | refine v_draw0 ?_) | (with_reducible first | refine n_then ?_ | refine r_then ?_ | refine e_then ?_ | refine n_block ?_ | refine r_block ?_ | refine e_block_eq (by with_unfolding_all rfl) ?_ | refine e_block_ne (by with_unfolding_all rfl) ?_)))
  clear hfin u1 u2 hlo2 hN hY eY
  obtain ⟨U1, hU1⟩ : ∃ m, m = N / 18446744073709551616 := ⟨_, rfl⟩
  obtain ⟨U0, hU0⟩ : ∃ m, m = N % 18446744073709551616 := ⟨_, rfl⟩
  rw [← hU1, ← hU0]
  rw [← hU1] at u3
  have hND : N = U1 * 18446744073709551616 + U0 := by omega
  have hU0l : U0 < 18446744073709551616 := by omega
  clear hU1 hU0
  obtain ⟨y1, hy1e⟩ : ∃ m, m = Y / 2 ^ 32 := ⟨_, rfl⟩
  obtain ⟨y0, hy0e⟩ : ∃ m, m = Y % 4294967296 := ⟨_, rfl⟩
  obtain ⟨un1, hun1⟩ : ∃ m, m = U0 / 2 ^ 32 := ⟨_, rfl⟩
  obtain ⟨un0, hun0⟩ : ∃ m, m = U0 % 4294967296 := ⟨_, rfl⟩
  rw [← hy1e, ← hy0e, ← hun1, ← hun0]
  have hY : Y = y1 * 4294967296 + y0 := by omega
  have hy1a : 2147483648 ≤ y1 := by omega
  have hy1b : y1 < 4294967296 := by omega
  have hy0b : y0 < 4294967296 := by omega
  have hu1 : un1 < 4294967296 := by omega
  have hu0 : un0 < 4294967296 := by omega
  have hNE : N = U1 * 18446744073709551616 + (un1 * 4294967296 + un0) := by omega
  rw [hNE]
  clear hy1e hy0e hun1 hun0 hND hU0l hNE
  obtain ⟨hi1, hi2⟩ := half_init (N := U1 * 4294967296 + un1) rfl hu1 (by omega) hy1a hy0b
  rw [← hY] at hi1
  have hdm := Nat.div_add_mod U1 y1
  have hrl := Nat.mod_lt U1 (show y1 > 0 by omega)
  have e3 : (U1 + 18446744073709551616 - U1 / y1 * y1 % 18446744073709551616) % 18446744073709551616 = U1 % y1 := wrapsub1 (by rw [Nat.mul_comm]; exact hdm) (Nat.lt_trans hrl (by omega)) (by omega)
  rw [e3]
  have hT := div64B
  unfold pc69 at hT
  simp only [sndN, SL.sets, AL.sets] at hT
  generalize hQ : thenQ (vc Try.prog E69 _ _) _ = Q'
  refine v_loopX (α := Nat × Nat) (fun x => x.1 * y1 + x.2 = U1 ∧ (U1 * 4294967296 + un1) / Y ≤ x.1 ∧ x.1 ≤ 4294967297 ∧ x.2 < 4294967296) (fun x => [(2, iv .u64 Y), (8, iv .u64 s), (9, iv .u64 y1), (10, iv .u64 y0), (11, iv .u64 U1), (13, iv .u64 un1), (14, iv .u64 un0), (15, iv .u64 x.1), (16, iv .u64 x.2)]) (fun _ => []) (fun _ => G) (fun x => x.1) (U1 / y1, U1 % y1)
    ⟨by rw [Nat.mul_comm]; exact hdm, hi1, hi2, by dsimp only; omega⟩ (by refine ⟨SL.get_fn (by with_unfolding_all rfl), SL.get_fn (by with_unfolding_all rfl), SL.get_fn (by with_unfolding_all rfl), SL.get_fn (by with_unfolding_all rfl), SL.get_fn (by with_unfolding_all rfl), SL.get_fn (by with_unfolding_all rfl), SL.get_fn (by with_unfolding_all rfl), SL.get_fn (by with_unfolding_all rfl), SL.get_fn (by with_unfolding_all rfl), trivial⟩) trivial rfl ?_
  rintro ⟨q, r⟩ s2 l2 ⟨k1, k2, k3, k4⟩
  dsimp only at k1 k2 k3 k4
  dsimp only [SL.sets, AL.sets]
  have hp : q < 4294967296 → q * y0 ≤ 4294967295 * 4294967295 := fun h => Nat.mul_le_mul (by omega) (by omega)
  (repeat' (first | (with_reducible refine i_ops ?_; first | (refine g_mv ?_; refine s_mv ?_) | refine o_nil ?_ | (refine g_some ?_; first | refine s_g_t ?_ | refine s_g_f ?_ | refine s_g_f' ?_ | refine s_g_u ?_) | (refine g_pick ?_; first | refine s_pick_t ?_ | refine s_pick_f ?_) | (refine g_pure ?_; first | refine s_wshrc ?_ | refine s_wshr ?_ | refine s_wshlc ?_ | refine s_wshl ?_ | refine s_waddc ?_ | refine s_wadd ?_ | refine s_wsubc ?_ | refine s_wsub ?_ | refine s_wmulc ?_ | refine s_wmull ?_ | refine s_wmul ?_ | refine s_wquo ?_ | refine s_wrem ?_ | refine s_wand32 ?_ | refine s_wor' ?_ | refine s_wconv ?_ | refine s_wsubl ?_ | refine s_pure ?_ | refine s_saddB ?_) | (refine g_hload ?_; refine s_hloadP ?_)) | (with_reducible refine i_vc ?_; first | refine v_seq ?_ | refine v_ops ?_ | (refine g_cond ?_; first | refine s_cond_t ?_ | refine s_cond_f ?_) | refine v_block ?_ | refine v_skip ?_ | refine v_exit ?_ | refine v_ret ?_ | refine s_drawl ?_ | refine v_draw0 ?_) | (with_reducible refine i_plan ?_; first | refine p_done ?_ | refine s_pre ?_ | refine s_preN ?_ | refine s_ag_t ?_ | refine s_ag_f ?_) | (with_reducible first | refine n_then ?_ | refine r_then ?_ | refine e_then ?_ | refine n_block ?_ | refine r_block ?_ | refine e_block_eq (by with_unfolding_all rfl) ?_ | refine e_block_ne (by with_unfolding_all rfl) ?_) | ((with_reducible first | refine s_g_c ?_ ?_ | refine s_cond_c ?_ ?_ | refine s_tg_c ?_ ?_ | refine s_ag_c ?_ ?_) <;> intro hb <;> rw [hb] <;> (try simp only [decide_eq_true_eq, decide_eq_false_iff_not, beq_iff_eq, bne_iff_ne, beq_eq_false_iff_ne, bne_eq_false_iff_eq, ne_eq, Int.not_lt, Int.not_le, gt_iff_lt, ge_iff_le, Bool.not_eq_true', Bool.not_eq_false'] at hb)) | ((with_reducible first | refine s_ret ?_ | refine s_normal ?_); try simp only [x_tup0, x_tup1, x_tup2, x_tup3, x_tup4, x_tup5, and_true, true_and])))
  rotate_right
  · have hq0 : q = (U1 * 4294967296 + un1) / Y := by
      rw [hY] at k2 ⊢; exact half_eq rfl hu1 (by omega) k1 k2 (by omega)
    subst hQ
    refine n_then ?_
    refine v_trim [(2, iv .u64 Y), (8, iv .u64 s), (9, iv .u64 y1), (10, iv .u64 y0), (11, iv .u64 U1), (13, iv .u64 un1), (14, iv .u64 un0), (15, iv .u64 q)] [] (by refine ⟨SL.get_fn (by with_unfolding_all rfl), SL.get_fn (by with_unfolding_all rfl), SL.get_fn (by with_unfolding_all rfl), SL.get_fn (by with_unfolding_all rfl), SL.get_fn (by with_unfolding_all rfl), SL.get_fn (by with_unfolding_all rfl), SL.get_fn (by with_unfolding_all rfl), SL.get_fn (by with_unfolding_all rfl), trivial⟩) trivial ?_
    intro s3 l3
    exact hT s Y y1 y0 U1 un1 un0 q G s3 l3 _ hY hy1a hy1b hy0b u3 hu1 hu0 hq0 ⟨rfl, rfl⟩
  all_goals
    have hcond : 4294967296 ≤ q ∨ 4294967296 * r + un1 < q * y0 := by omega
    have hbig := half_big (N := U1 * 4294967296 + un1) rfl hu1 (by omega) (show 0 < y1 by omega) k1 hcond
    rw [← hY] at hbig
    have hq0 : 0 < q := by
      rcases Nat.eq_zero_or_pos q with h | h
      · rw [h] at hcond; omega
      · exact h
    have md := mul_dec (y := y1) hq0
    rw [show (q + 18446744073709551616 - 1) % 18446744073709551616 = q - 1 by omega, show (r + y1) % 18446744073709551616 = r + y1 by omega]
    rw [show (r + y1) % 18446744073709551616 = r + y1 by omega] at hb
    clear hcond
    first
      | (have hb2 : r + y1 < 4294967296 := by omega
         refine ⟨q - 1, by omega, (q - 1, r + y1), rfl, ⟨by dsimp only; omega, hbig, by dsimp only; omega, hb2⟩, (by refine ⟨SL.get_fn (by with_unfolding_all rfl), SL.get_fn (by with_unfolding_all rfl), SL.get_fn (by with_unfolding_all rfl), SL.get_fn (by with_unfolding_all rfl), SL.get_fn (by with_unfolding_all rfl), SL.get_fn (by with_unfolding_all rfl), SL.get_fn (by with_unfolding_all rfl), SL.get_fn (by with_unfolding_all rfl), SL.get_fn (by with_unfolding_all rfl), trivial⟩), trivial, rfl⟩)
      | (have hp2 : (q - 1) * y0 ≤ 4294967296 * 4294967295 := Nat.mul_le_mul (by omega) (by omega)
         have hqe : q - 1 = (U1 * 4294967296 + un1) / Y := by
           rw [hY] at hbig ⊢; exact half_eq rfl hu1 (by omega) (r := r + y1) (by omega) hbig (by omega)
         subst hQ
         refine n_then ?_
         refine v_trim [(2, iv .u64 Y), (8, iv .u64 s), (9, iv .u64 y1), (10, iv .u64 y0), (11, iv .u64 U1), (13, iv .u64 un1), (14, iv .u64 un0), (15, iv .u64 (q - 1))] [] (by refine ⟨SL.get_fn (by with_unfolding_all rfl), SL.get_fn (by with_unfolding_all rfl), SL.get_fn (by with_unfolding_all rfl), SL.get_fn (by with_unfolding_all rfl), SL.get_fn (by with_unfolding_all rfl), SL.get_fn (by with_unfolding_all rfl), SL.get_fn (by with_unfolding_all rfl), SL.get_fn (by with_unfolding_all rfl), trivial⟩) trivial ?_
         intro s3 l3
         exact hT s Y y1 y0 U1 un1 un0 (q - 1) G s3 l3 _ hY hy1a hy1b hy0b u3 hu1 hu0 hqe ⟨rfl, rfl⟩)
end Go.Proofs.Ytiijcncdjjdglaa.V
