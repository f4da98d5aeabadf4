/- Inverses; common divisors. -/
import Derived.Test.YtiijcncdjjdglaaGQM
import Derived.Test.YtiijcncdjjdglaaGCB
set_option linter.unusedSimpArgs false
set_option linter.unusedVariables false
-- @nums
-- @extra s_nilPf s_nilPt s_nilNf s_nilNt s_nilck s_fptr0
namespace Go.Proofs.Ytiijcncdjjdglaa.V
open Go.RowKit Go.ChangeShapes Go.WideShapes
/-- One of Euclid's steps, with what the number is multiplied by. -/
theorem euclid {M x T R W B q : Nat} (hM : 0 < M) (hq : q = T / R) (hW : W * x % M = T % M) (hB : B * x % M = R % M) :
    ((W % M + M - (q * B % M) % M) % M) * x % M = (T % R) % M := by
  rw [Nat.mod_mod]
  have l := Nat.mod_lt (q * B) hM
  have e1 : (W % M + M - q * B % M + q * B % M) % M = W % M := by
    rw [Nat.sub_add_cancel (by omega), Nat.add_mod_right, Nat.mod_mod]
  have e2 : (((W % M + M - q * B % M) % M) * x + q * R) % M = (T % R + q * R) % M := by
    have h1 : (((W % M + M - q * B % M) % M) * x + q * R) % M = (((W % M + M - q * B % M) % M) * x + q * B * x) % M := by
      have h0 : q * R % M = q * B * x % M := by rw [Nat.mul_assoc, Nat.mul_mod q (B * x), hB, ← Nat.mul_mod]
      rw [Nat.add_mod _ (q * R), h0, ← Nat.add_mod]
    have h2 : (((W % M + M - q * B % M) % M) * x + q * B * x) % M = T % M := by
      rw [← Nat.add_mul, Nat.mul_mod, Nat.mod_add_mod]
      have e3 : (W % M + M - q * B % M + q * B) % M = W % M := (Nat.add_mod_mod _ _ _).symm.trans e1
      rw [e3, ← Nat.mul_mod, hW]
    rw [h1, h2, hq, Nat.mul_comm (T / R) R, Nat.mod_add_div]
  exact add_cancel_mod e2
theorem dg_one64 : dg 18446744073709551616 1 = [1] := by
  rw [dg, dif_neg (by decide), show (1 : Nat) / 18446744073709551616 = 0 from rfl, dg_zero]
def InvR (G : GH) (M : Nat) (xs : List Nat) (v : Value) (G' : GH) : Prop := G.le G' ∧ ((¬ ln xs ≤ 64 ∧ v = .tuple #[.slice none 0 0, .int .i64 3]) ∨
  (ln xs ≤ 64 ∧ Nat.gcd M (val 18446744073709551616 xs % M) ≠ 1 ∧ v = .tuple #[.slice none 0 0, .int .i64 70]) ∨
  (ln xs ≤ 64 ∧ Nat.gcd M (val 18446744073709551616 xs % M) = 1 ∧ ∃ r y, v = .tuple #[r, .int .i64 0] ∧ y < M ∧ val 18446744073709551616 xs * y % M = 1 ∧ Own 1 G G' r ((dg 18446744073709551616 y).map (iv .u64))))
theorem mInverse {G : GH} {b M : Nat} (h : MO G b M) (u : Value) (xs : List Nat) (hu : Nu .u64 G u xs) (hd : Dl 18446744073709551616 xs) :
    HC Try.prog 29 #[pt b, u] G fun w G' => InvR G M xs w G' := by
  have hM := h.h1
  have hM8 := h.h8
  obtain ⟨⟨um, low, ur, uq, h1, h2, h3, h4⟩, h5⟩ := id h
  refine HC.start comp29 rfl ?_; unfold pc29
  (repeat' (first | (with_reducible refine i_ops ?_; first | (refine g_mv ?_; refine s_mv ?_) | refine o_nil ?_ | (refine g_some ?_; first | refine s_g_t ?_ | refine s_g_f ?_ | refine s_g_f' ?_ | refine s_g_u ?_) | (refine g_pick ?_; first | refine s_pick_t ?_ | refine s_pick_f ?_) | (refine g_len ?_; first | refine s_lenN ?_ | refine s_lenB ?_ | refine s_pure ?_) | (refine g_idx ?_; first | (refine s_idxN ?_; intro p hp; try simp only [Int.toNat_natCast] at hp) | (refine s_idxOB ?_; intro p hp hpw) | (refine s_idxB ?_; intro p hp)) | (refine g_pure ?_; first | refine s_nilPf ?_ | refine s_nilPt ?_ | refine s_nilNf ?_ | refine s_nilNt ?_ | refine s_nilck ?_ | refine s_fptr0 ?_ | refine s_pure ?_ | refine s_saddB ?_) | (refine g_hload ?_; refine s_hloadP ?_)) | (with_reducible refine i_vc ?_; first | refine v_seq ?_ | refine v_ops ?_ | (refine g_cond ?_; first | refine s_cond_t ?_ | refine s_cond_f ?_) | refine v_block ?_ | refine v_skip ?_ | refine v_exit ?_ | refine v_ret ?_ | refine s_drawl ?_ | refine v_draw0 ?_) | (with_reducible refine i_plan ?_; first | refine p_done ?_ | refine s_pre ?_ | refine s_preN ?_ | refine s_ag_t ?_ | refine s_ag_f ?_) | (with_reducible first | refine n_then ?_ | refine r_then ?_ | refine e_then ?_ | refine n_block ?_ | refine r_block ?_ | refine e_block_eq (by with_unfolding_all rfl) ?_ | refine e_block_ne (by with_unfolding_all rfl) ?_) | ((with_reducible first | refine s_g_c ?_ ?_ | refine s_cond_c ?_ ?_ | refine s_tg_c ?_ ?_ | refine s_ag_c ?_ ?_) <;> intro hb <;> rw [hb] <;> (try simp only [decide_eq_true_eq, decide_eq_false_iff_not, beq_iff_eq, bne_iff_ne, beq_eq_false_iff_ne, bne_eq_false_iff_eq, ne_eq, Int.not_lt, Int.not_le, gt_iff_lt, ge_iff_le, Bool.not_eq_true', Bool.not_eq_false'] at hb)) | ((with_reducible first | refine s_ret ?_ | refine s_normal ?_); try simp only [x_tup0, x_tup1, x_tup2, x_tup3, x_tup4, x_tup5, and_true, true_and])))
  refine o_callc (by with_unfolding_all rfl) (ReduceN h hu hd) ?_
  rintro _ G1 ⟨hle1, x, rfl, x1, x2⟩
  by_cases g1 : ln xs ≤ 64
  rotate_left
  · have e3 : ee (ln xs ≤ 64) = 3 := if_neg g1
    rw [e3, x1 g1]
    (repeat' (first | (with_reducible refine i_ops ?_; first | (refine g_mv ?_; refine s_mv ?_) | refine o_nil ?_ | (refine g_some ?_; first | refine s_g_t ?_ | refine s_g_f ?_ | refine s_g_f' ?_ | refine s_g_u ?_) | (refine g_pick ?_; first | refine s_pick_t ?_ | refine s_pick_f ?_) | (refine g_len ?_; first | refine s_lenN ?_ | refine s_lenB ?_ | refine s_pure ?_) | (refine g_idx ?_; first | (refine s_idxN ?_; intro p hp; try simp only [Int.toNat_natCast] at hp) | (refine s_idxOB ?_; intro p hp hpw) | (refine s_idxB ?_; intro p hp)) | (refine g_pure ?_; first | refine s_nilPf ?_ | refine s_nilPt ?_ | refine s_nilNf ?_ | refine s_nilNt ?_ | refine s_nilck ?_ | refine s_fptr0 ?_ | refine s_pure ?_ | refine s_saddB ?_) | (refine g_hload ?_; refine s_hloadP ?_)) | (with_reducible refine i_vc ?_; first | refine v_seq ?_ | refine v_ops ?_ | (refine g_cond ?_; first | refine s_cond_t ?_ | refine s_cond_f ?_) | refine v_block ?_ | refine v_skip ?_ | refine v_exit ?_ | refine v_ret ?_ | refine s_drawl ?_ | refine v_draw0 ?_) | (with_reducible refine i_plan ?_; first | refine p_done ?_ | refine s_pre ?_ | refine s_preN ?_ | refine s_ag_t ?_ | refine s_ag_f ?_) | (with_reducible first | refine n_then ?_ | refine r_then ?_ | refine e_then ?_ | refine n_block ?_ | refine r_block ?_ | refine e_block_eq (by with_unfolding_all rfl) ?_ | refine e_block_ne (by with_unfolding_all rfl) ?_) | ((with_reducible first | refine s_g_c ?_ ?_ | refine s_cond_c ?_ ?_ | refine s_tg_c ?_ ?_ | refine s_ag_c ?_ ?_) <;> intro hb <;> rw [hb] <;> (try simp only [decide_eq_true_eq, decide_eq_false_iff_not, beq_iff_eq, bne_iff_ne, beq_eq_false_iff_ne, bne_eq_false_iff_eq, ne_eq, Int.not_lt, Int.not_le, gt_iff_lt, ge_iff_le, Bool.not_eq_true', Bool.not_eq_false'] at hb)) | ((with_reducible first | refine s_ret ?_ | refine s_normal ?_); try simp only [x_tup0, x_tup1, x_tup2, x_tup3, x_tup4, x_tup5, and_true, true_and])))
    exact ⟨hle1, .inl ⟨g1, rfl⟩⟩
  have e0 : ee (ln xs ≤ 64) = 0 := if_pos g1
  rw [e0]
  have hx := x2 g1
  have P0 := (h1.le hle1).p0
  have hm1 := (h1.le hle1).hm
  obtain ⟨X, hX⟩ : ∃ X, X = val 18446744073709551616 xs % M := ⟨_, rfl⟩
  rw [← hX] at hx
  have hXM : X < M := by rw [hX]; exact Nat.mod_lt _ (by omega)
  have hx1 : Nu .u64 G1 x (dg 18446744073709551616 X) := hx.sl
  (repeat' (first | (with_reducible refine i_ops ?_; first | (refine g_mv ?_; refine s_mv ?_) | refine o_nil ?_ | (refine g_some ?_; first | refine s_g_t ?_ | refine s_g_f ?_ | refine s_g_f' ?_ | refine s_g_u ?_) | (refine g_pick ?_; first | refine s_pick_t ?_ | refine s_pick_f ?_) | (refine g_len ?_; first | refine s_lenN ?_ | refine s_lenB ?_ | refine s_pure ?_) | (refine g_idx ?_; first | (refine s_idxN ?_; intro p hp; try simp only [Int.toNat_natCast] at hp) | (refine s_idxOB ?_; intro p hp hpw) | (refine s_idxB ?_; intro p hp)) | (refine g_pure ?_; first | refine s_nilPf ?_ | refine s_nilPt ?_ | refine s_nilNf ?_ | refine s_nilNt ?_ | refine s_nilck ?_ | refine s_fptr0 ?_ | refine s_pure ?_ | refine s_saddB ?_) | (refine g_hload ?_; refine s_hloadP ?_)) | (with_reducible refine i_vc ?_; first | refine v_seq ?_ | refine v_ops ?_ | (refine g_cond ?_; first | refine s_cond_t ?_ | refine s_cond_f ?_) | refine v_block ?_ | refine v_skip ?_ | refine v_exit ?_ | refine v_ret ?_ | refine s_drawl ?_ | refine v_draw0 ?_) | (with_reducible refine i_plan ?_; first | refine p_done ?_ | refine s_pre ?_ | refine s_preN ?_ | refine s_ag_t ?_ | refine s_ag_f ?_) | (with_reducible first | refine n_then ?_ | refine r_then ?_ | refine e_then ?_ | refine n_block ?_ | refine r_block ?_ | refine e_block_eq (by with_unfolding_all rfl) ?_ | refine e_block_ne (by with_unfolding_all rfl) ?_) | ((with_reducible first | refine s_g_c ?_ ?_ | refine s_cond_c ?_ ?_ | refine s_tg_c ?_ ?_ | refine s_ag_c ?_ ?_) <;> intro hb <;> rw [hb] <;> (try simp only [decide_eq_true_eq, decide_eq_false_iff_not, beq_iff_eq, bne_iff_ne, beq_eq_false_iff_ne, bne_eq_false_iff_eq, ne_eq, Int.not_lt, Int.not_le, gt_iff_lt, ge_iff_le, Bool.not_eq_true', Bool.not_eq_false'] at hb)) | ((with_reducible first | refine s_ret ?_ | refine s_normal ?_); try simp only [x_tup0, x_tup1, x_tup2, x_tup3, x_tup4, x_tup5, and_true, true_and])))
  refine o_bsliceO (vs := [iv .u64 1]) (by with_unfolding_all rfl) rfl rfl rfl rfl rfl ?_
  intro w G2 hle2 ho2 hw2
  have k2 := GH.le_trans hle1 hle2
  have hw1 : Nu .u64 G2 w (dg 18446744073709551616 1) := by rw [dg_one64]; exact ho2.sl
  have hn0 : Nu .u64 G2 (.slice none 0 0) (dg 18446744073709551616 0) := by rw [dg_zero]; exact nu_nil _ _
  (repeat' (first | (with_reducible refine i_ops ?_; first | (refine g_mv ?_; refine s_mv ?_) | refine o_nil ?_ | (refine g_some ?_; first | refine s_g_t ?_ | refine s_g_f ?_ | refine s_g_f' ?_ | refine s_g_u ?_) | (refine g_pick ?_; first | refine s_pick_t ?_ | refine s_pick_f ?_) | (refine g_len ?_; first | refine s_lenN ?_ | refine s_lenB ?_ | refine s_pure ?_) | (refine g_idx ?_; first | (refine s_idxN ?_; intro p hp; try simp only [Int.toNat_natCast] at hp) | (refine s_idxOB ?_; intro p hp hpw) | (refine s_idxB ?_; intro p hp)) | (refine g_pure ?_; first | refine s_nilPf ?_ | refine s_nilPt ?_ | refine s_nilNf ?_ | refine s_nilNt ?_ | refine s_nilck ?_ | refine s_fptr0 ?_ | refine s_pure ?_ | refine s_saddB ?_) | (refine g_hload ?_; refine s_hloadP ?_)) | (with_reducible refine i_vc ?_; first | refine v_seq ?_ | refine v_ops ?_ | (refine g_cond ?_; first | refine s_cond_t ?_ | refine s_cond_f ?_) | refine v_block ?_ | refine v_skip ?_ | refine v_exit ?_ | refine v_ret ?_ | refine s_drawl ?_ | refine v_draw0 ?_) | (with_reducible refine i_plan ?_; first | refine p_done ?_ | refine s_pre ?_ | refine s_preN ?_ | refine s_ag_t ?_ | refine s_ag_f ?_) | (with_reducible first | refine n_then ?_ | refine r_then ?_ | refine e_then ?_ | refine n_block ?_ | refine r_block ?_ | refine e_block_eq (by with_unfolding_all rfl) ?_ | refine e_block_ne (by with_unfolding_all rfl) ?_) | ((with_reducible first | refine s_g_c ?_ ?_ | refine s_cond_c ?_ ?_ | refine s_tg_c ?_ ?_ | refine s_ag_c ?_ ?_) <;> intro hb <;> rw [hb] <;> (try simp only [decide_eq_true_eq, decide_eq_false_iff_not, beq_iff_eq, bne_iff_ne, beq_eq_false_iff_ne, bne_eq_false_iff_eq, ne_eq, Int.not_lt, Int.not_le, gt_iff_lt, ge_iff_le, Bool.not_eq_true', Bool.not_eq_false'] at hb)) | ((with_reducible first | refine s_ret ?_ | refine s_normal ?_); try simp only [x_tup0, x_tup1, x_tup2, x_tup3, x_tup4, x_tup5, and_true, true_and])))
  refine v_loopX (α := (Nat × Nat × Nat × Nat) × (Value × Value × Value × Value) × GH)
    (fun q => q.1.1 ≤ M ∧ q.1.2.1 < M ∧ q.1.2.2.1 < M ∧ q.1.2.2.2 < M ∧ q.1.2.2.1 * X % M = q.1.1 % M ∧ q.1.2.2.2 * X % M = q.1.2.1 % M ∧ Nat.gcd q.1.1 q.1.2.1 = Nat.gcd M X ∧ G2.le q.2.2 ∧
      Nu .u64 q.2.2 q.2.1.1 (dg 18446744073709551616 q.1.1) ∧ Nu .u64 q.2.2 q.2.1.2.1 (dg 18446744073709551616 q.1.2.1) ∧ Nu .u64 q.2.2 q.2.1.2.2.1 (dg 18446744073709551616 q.1.2.2.1) ∧ Nu .u64 q.2.2 q.2.1.2.2.2 (dg 18446744073709551616 q.1.2.2.2))
    (fun q => [(0, pt b), (8, q.2.1.2.1), (9, q.2.1.1), (10, q.2.1.2.2.2), (11, q.2.1.2.2.1)]) (fun _ => []) (fun q => q.2.2) (fun q => q.1.2.1) ((M, X, 0, 1), (um, x, .slice none 0 0, w), G2)
    ⟨Nat.le_refl _, hXM, (by omega : 0 < M), hM, by rw [Nat.zero_mul, Nat.mod_self, Nat.zero_mod], by rw [Nat.one_mul], rfl, GH.le_refl _, hm1.le hle2, hx1.le hle2, hn0, hw1⟩ (by refine ⟨SL.get_fn (by with_unfolding_all rfl), SL.get_fn (by with_unfolding_all rfl), SL.get_fn (by with_unfolding_all rfl), SL.get_fn (by with_unfolding_all rfl), SL.get_fn (by with_unfolding_all rfl), trivial⟩) trivial rfl ?_
  rintro ⟨⟨T, R, W, B⟩, ⟨vt, vr, vw, vb⟩, H⟩ s ll ⟨j1, j2, j3, j4, j5, j6, j7, j8, j9, j10, j11, j12⟩
  dsimp only at j1 j2 j3 j4 j5 j6 j7 j8 j9 j10 j11 j12
  dsimp only [SL.sets, AL.sets]
  have kH := GH.le_trans k2 j8
  have mon : ∀ z, z ≤ M → (dg 18446744073709551616 z).length ≤ 8 := fun z hz => Nat.le_trans (dg_len_mono (B := 18446744073709551616) (by decide) hz) hM8
  have lnd : ∀ z, ln (dg 18446744073709551616 z) = (dg 18446744073709551616 z).length := fun z => by unfold ln; rw [val_dg (by decide)]
  have lT := mon T j1
  have lR := mon R (by omega)
  have lW := mon W (by omega)
  have lB := mon B (by omega)
  (repeat' (first | (with_reducible refine i_ops ?_; first | (refine g_mv ?_; refine s_mv ?_) | refine o_nil ?_ | (refine g_some ?_; first | refine s_g_t ?_ | refine s_g_f ?_ | refine s_g_f' ?_ | refine s_g_u ?_) | (refine g_pick ?_; first | refine s_pick_t ?_ | refine s_pick_f ?_) | (refine g_len ?_; first | refine s_lenN ?_ | refine s_lenB ?_ | refine s_pure ?_) | (refine g_idx ?_; first | (refine s_idxN ?_; intro p hp; try simp only [Int.toNat_natCast] at hp) | (refine s_idxOB ?_; intro p hp hpw) | (refine s_idxB ?_; intro p hp)) | (refine g_pure ?_; first | refine s_nilPf ?_ | refine s_nilPt ?_ | refine s_nilNf ?_ | refine s_nilNt ?_ | refine s_nilck ?_ | refine s_fptr0 ?_ | refine s_pure ?_ | refine s_saddB ?_) | (refine g_hload ?_; refine s_hloadP ?_)) | (with_reducible refine i_vc ?_; first | refine v_seq ?_ | refine v_ops ?_ | (refine g_cond ?_; first | refine s_cond_t ?_ | refine s_cond_f ?_) | refine v_block ?_ | refine v_skip ?_ | refine v_exit ?_ | refine v_ret ?_ | refine s_drawl ?_ | refine v_draw0 ?_) | (with_reducible refine i_plan ?_; first | refine p_done ?_ | refine s_pre ?_ | refine s_preN ?_ | refine s_ag_t ?_ | refine s_ag_f ?_) | (with_reducible first | refine n_then ?_ | refine r_then ?_ | refine e_then ?_ | refine n_block ?_ | refine r_block ?_ | refine e_block_eq (by with_unfolding_all rfl) ?_ | refine e_block_ne (by with_unfolding_all rfl) ?_) | ((with_reducible first | refine s_g_c ?_ ?_ | refine s_cond_c ?_ ?_ | refine s_tg_c ?_ ?_ | refine s_ag_c ?_ ?_) <;> intro hb <;> rw [hb] <;> (try simp only [decide_eq_true_eq, decide_eq_false_iff_not, beq_iff_eq, bne_iff_ne, beq_eq_false_iff_ne, bne_eq_false_iff_eq, ne_eq, Int.not_lt, Int.not_le, gt_iff_lt, ge_iff_le, Bool.not_eq_true', Bool.not_eq_false'] at hb)) | ((with_reducible first | refine s_ret ?_ | refine s_normal ?_); try simp only [x_tup0, x_tup1, x_tup2, x_tup3, x_tup4, x_tup5, and_true, true_and])))
  · have hR0 : R ≠ 0 := fun e => by rw [e, dg_zero] at hb; simp at hb
    refine o_callc (by with_unfolding_all rfl) (Div vt vr _ _ H j9 j10 (dg_lt (by decide) _) (dg_lt (by decide) _)) ?_
    rw [val_dg (by decide), val_dg (by decide)]
    rintro _ H1 ⟨e1, ⟨f, _⟩ | ⟨_, f, _⟩ | ⟨_, _, q, r, rfl, hq, hr, _⟩⟩
    · exact absurd ⟨by rw [lnd]; omega, by rw [lnd]; omega⟩ f
    · omega
    have hqT : T / R ≤ M := Nat.le_trans (Nat.div_le_self T R) j1
    have hrR := Nat.mod_lt T (show R > 0 by omega)
    have lq := mon _ hqT
    have c1 : ln (dg 18446744073709551616 (T / R)) ≤ 64 ∧ ln (dg 18446744073709551616 B) ≤ 64 := ⟨by rw [lnd]; omega, by rw [lnd]; omega⟩
    have M1 := h.le (GH.le_trans kH e1)
    (repeat' (first | (with_reducible refine i_ops ?_; first | (refine g_mv ?_; refine s_mv ?_) | refine o_nil ?_ | (refine g_some ?_; first | refine s_g_t ?_ | refine s_g_f ?_ | refine s_g_f' ?_ | refine s_g_u ?_) | (refine g_pick ?_; first | refine s_pick_t ?_ | refine s_pick_f ?_) | (refine g_len ?_; first | refine s_lenN ?_ | refine s_lenB ?_ | refine s_pure ?_) | (refine g_idx ?_; first | (refine s_idxN ?_; intro p hp; try simp only [Int.toNat_natCast] at hp) | (refine s_idxOB ?_; intro p hp hpw) | (refine s_idxB ?_; intro p hp)) | (refine g_pure ?_; first | refine s_nilPf ?_ | refine s_nilPt ?_ | refine s_nilNf ?_ | refine s_nilNt ?_ | refine s_nilck ?_ | refine s_fptr0 ?_ | refine s_pure ?_ | refine s_saddB ?_) | (refine g_hload ?_; refine s_hloadP ?_)) | (with_reducible refine i_vc ?_; first | refine v_seq ?_ | refine v_ops ?_ | (refine g_cond ?_; first | refine s_cond_t ?_ | refine s_cond_f ?_) | refine v_block ?_ | refine v_skip ?_ | refine v_exit ?_ | refine v_ret ?_ | refine s_drawl ?_ | refine v_draw0 ?_) | (with_reducible refine i_plan ?_; first | refine p_done ?_ | refine s_pre ?_ | refine s_preN ?_ | refine s_ag_t ?_ | refine s_ag_f ?_) | (with_reducible first | refine n_then ?_ | refine r_then ?_ | refine e_then ?_ | refine n_block ?_ | refine r_block ?_ | refine e_block_eq (by with_unfolding_all rfl) ?_ | refine e_block_ne (by with_unfolding_all rfl) ?_) | ((with_reducible first | refine s_g_c ?_ ?_ | refine s_cond_c ?_ ?_ | refine s_tg_c ?_ ?_ | refine s_ag_c ?_ ?_) <;> intro hb <;> rw [hb] <;> (try simp only [decide_eq_true_eq, decide_eq_false_iff_not, beq_iff_eq, bne_iff_ne, beq_eq_false_iff_ne, bne_eq_false_iff_eq, ne_eq, Int.not_lt, Int.not_le, gt_iff_lt, ge_iff_le, Bool.not_eq_true', Bool.not_eq_false'] at hb)) | ((with_reducible first | refine s_ret ?_ | refine s_normal ?_); try simp only [x_tup0, x_tup1, x_tup2, x_tup3, x_tup4, x_tup5, and_true, true_and])))
    refine o_callc (by with_unfolding_all rfl) (MulN M1 hq.sl (j12.le e1) (dg_lt (by decide) _) (dg_lt (by decide) _)) ?_
    rw [val_dg (by decide), val_dg (by decide)]
    rintro _ H2 ⟨e2, p, rfl, _, hp⟩
    have hp := hp c1
    rw [show ee (ln (dg 18446744073709551616 (T / R)) ≤ 64 ∧ ln (dg 18446744073709551616 B) ≤ 64) = 0 from if_pos c1]
    have e12 := GH.le_trans e1 e2
    have lp := mon (T / R * B % M) (Nat.le_of_lt (Nat.mod_lt _ (by omega)))
    have c2 : ln (dg 18446744073709551616 W) ≤ 64 ∧ ln (dg 18446744073709551616 (T / R * B % M)) ≤ 64 := ⟨by rw [lnd]; omega, by rw [lnd]; omega⟩
    (repeat' (first | (with_reducible refine i_ops ?_; first | (refine g_mv ?_; refine s_mv ?_) | refine o_nil ?_ | (refine g_some ?_; first | refine s_g_t ?_ | refine s_g_f ?_ | refine s_g_f' ?_ | refine s_g_u ?_) | (refine g_pick ?_; first | refine s_pick_t ?_ | refine s_pick_f ?_) | (refine g_len ?_; first | refine s_lenN ?_ | refine s_lenB ?_ | refine s_pure ?_) | (refine g_idx ?_; first | (refine s_idxN ?_; intro p hp; try simp only [Int.toNat_natCast] at hp) | (refine s_idxOB ?_; intro p hp hpw) | (refine s_idxB ?_; intro p hp)) | (refine g_pure ?_; first | refine s_nilPf ?_ | refine s_nilPt ?_ | refine s_nilNf ?_ | refine s_nilNt ?_ | refine s_nilck ?_ | refine s_fptr0 ?_ | refine s_pure ?_ | refine s_saddB ?_) | (refine g_hload ?_; refine s_hloadP ?_) | refine o_callp (by with_unfolding_all rfl) (by first | exact must _ _ _) ?_ | (refine o_callg (by with_unfolding_all rfl) (by first | exact must _ _ _) ?_; intro G' hle)) | (with_reducible refine i_vc ?_; first | refine v_seq ?_ | refine v_ops ?_ | (refine g_cond ?_; first | refine s_cond_t ?_ | refine s_cond_f ?_) | refine v_block ?_ | refine v_skip ?_ | refine v_exit ?_ | refine v_ret ?_ | refine s_drawl ?_ | refine v_draw0 ?_) | (with_reducible refine i_plan ?_; first | refine p_done ?_ | refine s_pre ?_ | refine s_preN ?_ | refine s_ag_t ?_ | refine s_ag_f ?_) | (with_reducible first | refine n_then ?_ | refine r_then ?_ | refine e_then ?_ | refine n_block ?_ | refine r_block ?_ | refine e_block_eq (by with_unfolding_all rfl) ?_ | refine e_block_ne (by with_unfolding_all rfl) ?_) | ((with_reducible first | refine s_g_c ?_ ?_ | refine s_cond_c ?_ ?_ | refine s_tg_c ?_ ?_ | refine s_ag_c ?_ ?_) <;> intro hb <;> rw [hb] <;> (try simp only [decide_eq_true_eq, decide_eq_false_iff_not, beq_iff_eq, bne_iff_ne, beq_eq_false_iff_ne, bne_eq_false_iff_eq, ne_eq, Int.not_lt, Int.not_le, gt_iff_lt, ge_iff_le, Bool.not_eq_true', Bool.not_eq_false'] at hb)) | ((with_reducible first | refine s_ret ?_ | refine s_normal ?_); try simp only [x_tup0, x_tup1, x_tup2, x_tup3, x_tup4, x_tup5, and_true, true_and])))
    refine o_callc (by with_unfolding_all rfl) (SubN (M1.le e2) (j11.le e12) hp.sl (dg_lt (by decide) _) (dg_lt (by decide) _)) ?_
    rw [val_dg (by decide), val_dg (by decide)]
    rintro _ H3 ⟨e3, b2, rfl, _, hb2⟩
    have hb2 := hb2 c2
    rw [show ee (ln (dg 18446744073709551616 W) ≤ 64 ∧ ln (dg 18446744073709551616 (T / R * B % M)) ≤ 64) = 0 from if_pos c2]
    have e13 := GH.le_trans e12 e3
    (repeat' (first | (with_reducible refine i_ops ?_; first | (refine g_mv ?_; refine s_mv ?_) | refine o_nil ?_ | (refine g_some ?_; first | refine s_g_t ?_ | refine s_g_f ?_ | refine s_g_f' ?_ | refine s_g_u ?_) | (refine g_pick ?_; first | refine s_pick_t ?_ | refine s_pick_f ?_) | (refine g_len ?_; first | refine s_lenN ?_ | refine s_lenB ?_ | refine s_pure ?_) | (refine g_idx ?_; first | (refine s_idxN ?_; intro p hp; try simp only [Int.toNat_natCast] at hp) | (refine s_idxOB ?_; intro p hp hpw) | (refine s_idxB ?_; intro p hp)) | (refine g_pure ?_; first | refine s_nilPf ?_ | refine s_nilPt ?_ | refine s_nilNf ?_ | refine s_nilNt ?_ | refine s_nilck ?_ | refine s_fptr0 ?_ | refine s_pure ?_ | refine s_saddB ?_) | (refine g_hload ?_; refine s_hloadP ?_) | refine o_callp (by with_unfolding_all rfl) (by first | exact must _ _ _) ?_ | (refine o_callg (by with_unfolding_all rfl) (by first | exact must _ _ _) ?_; intro G' hle)) | (with_reducible refine i_vc ?_; first | refine v_seq ?_ | refine v_ops ?_ | (refine g_cond ?_; first | refine s_cond_t ?_ | refine s_cond_f ?_) | refine v_block ?_ | refine v_skip ?_ | refine v_exit ?_ | refine v_ret ?_ | refine s_drawl ?_ | refine v_draw0 ?_) | (with_reducible refine i_plan ?_; first | refine p_done ?_ | refine s_pre ?_ | refine s_preN ?_ | refine s_ag_t ?_ | refine s_ag_f ?_) | (with_reducible first | refine n_then ?_ | refine r_then ?_ | refine e_then ?_ | refine n_block ?_ | refine r_block ?_ | refine e_block_eq (by with_unfolding_all rfl) ?_ | refine e_block_ne (by with_unfolding_all rfl) ?_) | ((with_reducible first | refine s_g_c ?_ ?_ | refine s_cond_c ?_ ?_ | refine s_tg_c ?_ ?_ | refine s_ag_c ?_ ?_) <;> intro hb <;> rw [hb] <;> (try simp only [decide_eq_true_eq, decide_eq_false_iff_not, beq_iff_eq, bne_iff_ne, beq_eq_false_iff_ne, bne_eq_false_iff_eq, ne_eq, Int.not_lt, Int.not_le, gt_iff_lt, ge_iff_le, Bool.not_eq_true', Bool.not_eq_false'] at hb)) | ((with_reducible first | refine s_ret ?_ | refine s_normal ?_); try simp only [x_tup0, x_tup1, x_tup2, x_tup3, x_tup4, x_tup5, and_true, true_and])))
    refine ⟨T % R, hrR, ((R, T % R, B, (W % M + M - T / R * B % M % M) % M), (vr, r, vb, b2), H3), rfl,
      ⟨Nat.le_of_lt j2, Nat.lt_trans hrR j2, j4, Nat.mod_lt _ (by omega), j6, euclid (by omega) rfl j5 j6, ?_, GH.le_trans j8 e13, j10.le e13, hr.sl.le (GH.le_trans e2 e3), j12.le e13, hb2.sl⟩, (by refine ⟨SL.get_fn (by with_unfolding_all rfl), SL.get_fn (by with_unfolding_all rfl), SL.get_fn (by with_unfolding_all rfl), SL.get_fn (by with_unfolding_all rfl), SL.get_fn (by with_unfolding_all rfl), trivial⟩), trivial, rfl⟩
    dsimp only
    rw [← j7, Nat.gcd_comm R, ← Nat.gcd_rec, Nat.gcd_comm]
  all_goals
    have hR0 : R = 0 := by
      have : (dg 18446744073709551616 R).length = 0 := by omega
      exact (dg_ne (by decide)).1 (List.eq_nil_of_length_eq_zero this)
    subst hR0
    rw [Nat.gcd_zero_right] at j7
    have one := ln_one (xs := dg 18446744073709551616 T) (dg_lt (by decide) _)
    rw [val_dg (by decide), lnd] at one
    have hg : Nat.gcd M (val 18446744073709551616 xs % M) = T := by rw [← hX]; exact j7.symm
  · exact ⟨kH, .inr (.inl ⟨g1, fun h => by have := one.1 (by omega); omega, rfl⟩)⟩
  · exact ⟨kH, .inr (.inl ⟨g1, fun h => by have := one.1 (by omega); omega, rfl⟩)⟩
  · have hT1 : T = 1 := one.2 ⟨by omega, by omega⟩
    refine o_callc (by with_unfolding_all rfl) (ReduceN (h.le kH) j11 (dg_lt (by decide) _)) ?_
    rw [val_dg (by decide)]
    have c : ln (dg 18446744073709551616 W) ≤ 64 := by rw [lnd]; omega
    rintro _ H3 ⟨e3, r, rfl, _, hr⟩
    have hr := hr c
    rw [show ee (ln (dg 18446744073709551616 W) ≤ 64) = 0 from if_pos c]
    (repeat' (first | (with_reducible refine i_ops ?_; first | (refine g_mv ?_; refine s_mv ?_) | refine o_nil ?_ | (refine g_some ?_; first | refine s_g_t ?_ | refine s_g_f ?_ | refine s_g_f' ?_ | refine s_g_u ?_) | (refine g_pick ?_; first | refine s_pick_t ?_ | refine s_pick_f ?_) | (refine g_len ?_; first | refine s_lenN ?_ | refine s_lenB ?_ | refine s_pure ?_) | (refine g_idx ?_; first | (refine s_idxN ?_; intro p hp; try simp only [Int.toNat_natCast] at hp) | (refine s_idxOB ?_; intro p hp hpw) | (refine s_idxB ?_; intro p hp)) | (refine g_pure ?_; first | refine s_nilPf ?_ | refine s_nilPt ?_ | refine s_nilNf ?_ | refine s_nilNt ?_ | refine s_nilck ?_ | refine s_fptr0 ?_ | refine s_pure ?_ | refine s_saddB ?_) | (refine g_hload ?_; refine s_hloadP ?_)) | (with_reducible refine i_vc ?_; first | refine v_seq ?_ | refine v_ops ?_ | (refine g_cond ?_; first | refine s_cond_t ?_ | refine s_cond_f ?_) | refine v_block ?_ | refine v_skip ?_ | refine v_exit ?_ | refine v_ret ?_ | refine s_drawl ?_ | refine v_draw0 ?_) | (with_reducible refine i_plan ?_; first | refine p_done ?_ | refine s_pre ?_ | refine s_preN ?_ | refine s_ag_t ?_ | refine s_ag_f ?_) | (with_reducible first | refine n_then ?_ | refine r_then ?_ | refine e_then ?_ | refine n_block ?_ | refine r_block ?_ | refine e_block_eq (by with_unfolding_all rfl) ?_ | refine e_block_ne (by with_unfolding_all rfl) ?_) | ((with_reducible first | refine s_g_c ?_ ?_ | refine s_cond_c ?_ ?_ | refine s_tg_c ?_ ?_ | refine s_ag_c ?_ ?_) <;> intro hb <;> rw [hb] <;> (try simp only [decide_eq_true_eq, decide_eq_false_iff_not, beq_iff_eq, bne_iff_ne, beq_eq_false_iff_ne, bne_eq_false_iff_eq, ne_eq, Int.not_lt, Int.not_le, gt_iff_lt, ge_iff_le, Bool.not_eq_true', Bool.not_eq_false'] at hb)) | ((with_reducible first | refine s_ret ?_ | refine s_normal ?_); try simp only [x_tup0, x_tup1, x_tup2, x_tup3, x_tup4, x_tup5, and_true, true_and])))
    refine ⟨GH.le_trans kH e3, .inr (.inr ⟨g1, by omega, r, W % M, rfl, Nat.mod_lt _ (by omega), ?_, hr.base kH⟩)⟩
    rw [hT1, Nat.mod_eq_of_lt hM, hX] at j5
    rw [Nat.mul_mod, Nat.mod_mod, Nat.mul_comm, ← j5, Nat.mul_mod W, Nat.mod_mod]
end Go.Proofs.Ytiijcncdjjdglaa.V
