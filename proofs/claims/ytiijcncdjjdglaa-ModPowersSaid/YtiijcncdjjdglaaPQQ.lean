/- The document's powers; ModPowers. -/
import Derived.Test.YtiijcncdjjdglaaPQP
set_option linter.unusedSimpArgs false
set_option linter.unusedVariables false
-- @nums
-- @extra s_maxE s_nquo s_nquoc s_nremc s_nilPf s_nilPt s_nilNf s_nilNt s_nilck s_fptr0
namespace Go.Proofs.Ytiijcncdjjdglaa.V
open Go.RowKit Go.ChangeShapes Go.WideShapes
theorem dg_one16 : dg 65536 1 = [1] := by
  rw [dg, dif_neg (by decide), show (1 : Nat) / 65536 = 0 from rfl, dg_zero]
theorem modpow2 {a k M : Nat} : a ^ k % M * (a ^ k % M) % M = a ^ (2 * k) % M := by
  rw [← Nat.mul_mod, ← Nat.pow_add, Nat.two_mul]
theorem modpow1 {a k M : Nat} : a ^ k % M * (a % M) % M = a ^ (k + 1) % M := by
  rw [← Nat.mul_mod, ← Nat.pow_succ]
theorem digit_at (e j : Nat) : e / 65536 ^ j = 65536 * (e / 65536 ^ (j + 1)) + (dg 65536 e).getD j 0 := by
  have h1 : (dg 65536 e).getD j 0 = e / 65536 ^ j % 65536 := by
    have e1 := val_split 65536 (dg 65536 e) j
    rw [val_dg (by decide)] at e1
    by_cases hj : j ≤ (dg 65536 e).length
    · have e2 := val_lt ((dg_lt (B := 65536) (by decide) e).take j)
      rw [List.length_take, Nat.min_eq_left hj] at e2
      have e3 := val_drop 65536 (dg 65536 e) j
      have e4 : e / 65536 ^ j = val 65536 ((dg 65536 e).drop j) := by
        conv => lhs; rw [e1]
        rw [Nat.add_mul_div_left _ _ (Nat.pow_pos (by decide)), Nat.div_eq_of_lt e2, Nat.zero_add]
      rw [e4, e3]
      have := (dg_lt (B := 65536) (by decide) e).getD (by decide) j
      omega
    · rw [getD_ge _ (by omega)]
      have h2 := lt_dg (B := 65536) (by decide) e
      have h3 := Nat.pow_le_pow_right (show 0 < 65536 by decide) (show (dg 65536 e).length ≤ j by omega)
      rw [Nat.div_eq_of_lt (by omega)]
  rw [h1, Nat.pow_succ, ← Nat.div_div_eq_div_mul]; omega
theorem refExp {m u v : Value} {M a e : Nat} {G : GH} (hm : Nm G m M) (hu : Nm G u a) (hv : Nm G v e) (hM : 0 < M) (lm : L16 M 300) (la : L16 a 900) (lee : L16 e 900) : HC Try.prog 28 #[m, u, v] G fun v G' => G.le G' ∧ Nm G' v (a ^ e % M) := by
  have lmo : ∀ z, L16 (z % M) 300 := fun z => L16.lt (m := M) lm (Nat.le_of_lt (Nat.mod_lt _ hM))
  refine HC.start comp28 rfl ?_; unfold pc28
  (repeat' (first | (with_reducible refine i_ops ?_; first | (refine g_mv ?_; refine s_mv ?_) | refine o_nil ?_ | (refine g_len ?_; first | refine s_lenN ?_ | refine s_lenB ?_ | refine s_pure ?_) | (refine g_idx ?_; first | (refine s_idxN ?_; intro p hp; try simp only [Int.toNat_natCast] at hp) | (refine s_idxOB ?_; intro p hp hpw) | (refine s_idxB ?_; intro p hp)) | (refine g_pure ?_; first | refine s_maxE ?_ | refine s_nquo ?_ | refine s_nquoc ?_ | refine s_nremc ?_ | refine s_nilPf ?_ | refine s_nilPt ?_ | refine s_nilNf ?_ | refine s_nilNt ?_ | refine s_nilck ?_ | refine s_fptr0 ?_ | refine s_pure ?_ | refine s_saddB ?_) | (refine g_hload ?_; refine s_hloadP ?_)) | (with_reducible refine i_vc ?_; first | refine v_seq ?_ | refine v_ops ?_ | (refine g_cond ?_; first | refine s_cond_t ?_ | refine s_cond_f ?_) | refine v_block ?_ | refine v_skip ?_ | refine v_exit ?_ | refine v_ret ?_) | (with_reducible first | refine n_then ?_ | refine r_then ?_ | refine e_then ?_ | refine n_block ?_ | refine r_block ?_ | refine e_block_eq (by with_unfolding_all rfl) ?_ | refine e_block_ne (by with_unfolding_all rfl) ?_) | ((with_reducible first | refine s_cond_c ?_ ?_) <;> intro hb <;> rw [hb] <;> (try simp only [decide_eq_true_eq, decide_eq_false_iff_not, beq_iff_eq, bne_iff_ne, beq_eq_false_iff_ne, bne_eq_false_iff_eq, ne_eq, Int.not_lt, Int.not_le, gt_iff_lt, ge_iff_le, Bool.not_eq_true', Bool.not_eq_false'] at hb)) | ((with_reducible first | refine s_ret ?_ | refine s_normal ?_); try simp only [x_tup0, x_tup1, x_tup2, x_tup3, x_tup4, x_tup5, and_true, true_and])))
  refine o_bsliceO (vs := [iv .i64 1]) (by with_unfolding_all rfl) rfl rfl rfl rfl rfl ?_
  intro w G1 hle1 ho1 hw1
  have hw : Nm G1 w 1 := by show Nu .i64 G1 w (dg 65536 1); rw [dg_one16]; exact ho1.sl
  refine o_callc (by with_unfolding_all rfl) (refReduce (hm.le hle1) hw hM (by omega) (by show (dg 65536 1).length ≤ 900; rw [dg_one16]; decide)) ?_
  rintro o1 G2 ⟨hle2, ho2⟩
  have k2 := GH.le_trans hle1 hle2
  (repeat' (first | (with_reducible refine i_ops ?_; first | (refine g_mv ?_; refine s_mv ?_) | refine o_nil ?_ | (refine g_len ?_; first | refine s_lenN ?_ | refine s_lenB ?_ | refine s_pure ?_) | (refine g_idx ?_; first | (refine s_idxN ?_; intro p hp; try simp only [Int.toNat_natCast] at hp) | (refine s_idxOB ?_; intro p hp hpw) | (refine s_idxB ?_; intro p hp)) | (refine g_pure ?_; first | refine s_maxE ?_ | refine s_nquo ?_ | refine s_nquoc ?_ | refine s_nremc ?_ | refine s_nilPf ?_ | refine s_nilPt ?_ | refine s_nilNf ?_ | refine s_nilNt ?_ | refine s_nilck ?_ | refine s_fptr0 ?_ | refine s_pure ?_ | refine s_saddB ?_) | (refine g_hload ?_; refine s_hloadP ?_)) | (with_reducible refine i_vc ?_; first | refine v_seq ?_ | refine v_ops ?_ | (refine g_cond ?_; first | refine s_cond_t ?_ | refine s_cond_f ?_) | refine v_block ?_ | refine v_skip ?_ | refine v_exit ?_ | refine v_ret ?_) | (with_reducible first | refine n_then ?_ | refine r_then ?_ | refine e_then ?_ | refine n_block ?_ | refine r_block ?_ | refine e_block_eq (by with_unfolding_all rfl) ?_ | refine e_block_ne (by with_unfolding_all rfl) ?_) | ((with_reducible first | refine s_cond_c ?_ ?_) <;> intro hb <;> rw [hb] <;> (try simp only [decide_eq_true_eq, decide_eq_false_iff_not, beq_iff_eq, bne_iff_ne, beq_eq_false_iff_ne, bne_eq_false_iff_eq, ne_eq, Int.not_lt, Int.not_le, gt_iff_lt, ge_iff_le, Bool.not_eq_true', Bool.not_eq_false'] at hb)) | ((with_reducible first | refine s_ret ?_ | refine s_normal ?_); try simp only [x_tup0, x_tup1, x_tup2, x_tup3, x_tup4, x_tup5, and_true, true_and])))
  refine o_callc (by with_unfolding_all rfl) (refReduce (hm.le k2) (hu.le k2) hM (by omega) la) ?_
  rintro x G3 ⟨hle3, hx⟩
  have k3 := GH.le_trans k2 hle3
  have hv3 : Nu .i64 G3 v (dg 65536 e) := hv.le k3
  have hm3 : Nm G3 m M := hm.le k3
  have hx3 : Nm G3 x (a % M) := hx.sl
  have he0 : e / 65536 ^ (dg 65536 e).length = 0 := Nat.div_eq_of_lt (lt_dg (by decide) e)
  (repeat' (first | (with_reducible refine i_ops ?_; first | (refine g_mv ?_; refine s_mv ?_) | refine o_nil ?_ | (refine g_len ?_; first | refine s_lenN ?_ | refine s_lenB ?_ | refine s_pure ?_) | (refine g_idx ?_; first | (refine s_idxN ?_; intro p hp; try simp only [Int.toNat_natCast] at hp) | (refine s_idxOB ?_; intro p hp hpw) | (refine s_idxB ?_; intro p hp)) | (refine g_pure ?_; first | refine s_maxE ?_ | refine s_nquo ?_ | refine s_nquoc ?_ | refine s_nremc ?_ | refine s_nilPf ?_ | refine s_nilPt ?_ | refine s_nilNf ?_ | refine s_nilNt ?_ | refine s_nilck ?_ | refine s_fptr0 ?_ | refine s_pure ?_ | refine s_saddB ?_) | (refine g_hload ?_; refine s_hloadP ?_)) | (with_reducible refine i_vc ?_; first | refine v_seq ?_ | refine v_ops ?_ | (refine g_cond ?_; first | refine s_cond_t ?_ | refine s_cond_f ?_) | refine v_block ?_ | refine v_skip ?_ | refine v_exit ?_ | refine v_ret ?_) | (with_reducible first | refine n_then ?_ | refine r_then ?_ | refine e_then ?_ | refine n_block ?_ | refine r_block ?_ | refine e_block_eq (by with_unfolding_all rfl) ?_ | refine e_block_ne (by with_unfolding_all rfl) ?_) | ((with_reducible first | refine s_cond_c ?_ ?_) <;> intro hb <;> rw [hb] <;> (try simp only [decide_eq_true_eq, decide_eq_false_iff_not, beq_iff_eq, bne_iff_ne, beq_eq_false_iff_ne, bne_eq_false_iff_eq, ne_eq, Int.not_lt, Int.not_le, gt_iff_lt, ge_iff_le, Bool.not_eq_true', Bool.not_eq_false'] at hb)) | ((with_reducible first | refine s_ret ?_ | refine s_normal ?_); try simp only [x_tup0, x_tup1, x_tup2, x_tup3, x_tup4, x_tup5, and_true, true_and])))
  refine v_loopX (α := Nat × Value × GH) (fun q => q.1 ≤ (dg 65536 e).length ∧ G3.le q.2.2 ∧ Nm q.2.2 q.2.1 (a ^ (e / 65536 ^ q.1) % M)) (fun q => [(0, m), (2, v), (7, q.2.1), (8, x), (9, .int .i64 ((q.1 : Int) - 1))]) (fun _ => []) (fun q => q.2.2) (fun q => q.1) ((dg 65536 e).length, o1, G3)
    ⟨Nat.le_refl _, GH.le_refl _, by rw [he0, Nat.pow_zero]; exact ho2.sl.le hle3⟩ (by refine ⟨SL.get_fn (by with_unfolding_all rfl), SL.get_fn (by with_unfolding_all rfl), SL.get_fn (by with_unfolding_all rfl), SL.get_fn (by with_unfolding_all rfl), SL.get_fn (by with_unfolding_all rfl), trivial⟩) trivial rfl ?_
  rintro ⟨j, o, H⟩ s ll ⟨j1, j2, j3⟩
  dsimp only at j1 j2 j3
  dsimp only [SL.sets, AL.sets]
  (repeat' (first | (with_reducible refine i_ops ?_; first | (refine g_mv ?_; refine s_mv ?_) | refine o_nil ?_ | (refine g_len ?_; first | refine s_lenN ?_ | refine s_lenB ?_ | refine s_pure ?_) | (refine g_idx ?_; first | (refine s_idxN ?_; intro p hp; try simp only [Int.toNat_natCast] at hp) | (refine s_idxOB ?_; intro p hp hpw) | (refine s_idxB ?_; intro p hp)) | (refine g_pure ?_; first | refine s_maxE ?_ | refine s_nquo ?_ | refine s_nquoc ?_ | refine s_nremc ?_ | refine s_nilPf ?_ | refine s_nilPt ?_ | refine s_nilNf ?_ | refine s_nilNt ?_ | refine s_nilck ?_ | refine s_fptr0 ?_ | refine s_pure ?_ | refine s_saddB ?_) | (refine g_hload ?_; refine s_hloadP ?_)) | (with_reducible refine i_vc ?_; first | refine v_seq ?_ | refine v_ops ?_ | (refine g_cond ?_; first | refine s_cond_t ?_ | refine s_cond_f ?_) | refine v_block ?_ | refine v_skip ?_ | refine v_exit ?_ | refine v_ret ?_) | (with_reducible first | refine n_then ?_ | refine r_then ?_ | refine e_then ?_ | refine n_block ?_ | refine r_block ?_ | refine e_block_eq (by with_unfolding_all rfl) ?_ | refine e_block_ne (by with_unfolding_all rfl) ?_) | ((with_reducible first | refine s_cond_c ?_ ?_) <;> intro hb <;> rw [hb] <;> (try simp only [decide_eq_true_eq, decide_eq_false_iff_not, beq_iff_eq, bne_iff_ne, beq_eq_false_iff_ne, bne_eq_false_iff_eq, ne_eq, Int.not_lt, Int.not_le, gt_iff_lt, ge_iff_le, Bool.not_eq_true', Bool.not_eq_false'] at hb)) | ((with_reducible first | refine s_ret ?_ | refine s_normal ?_); try simp only [x_tup0, x_tup1, x_tup2, x_tup3, x_tup4, x_tup5, and_true, true_and])))
  · obtain ⟨i, rfl⟩ : ∃ i, j = i + 1 := ⟨j - 1, by omega⟩
    have hi : ((i + 1 : Nat) : Int) - 1 = i := by omega
    have hd := digit_at e i
    have hdl := (dg_lt (B := 65536) (by decide) e).getD (by decide) i
    rw [hi]
    generalize e / 65536 ^ (i + 1) = Q at *
    refine v_loopX (α := Nat × Nat × Value × GH) (fun q => q.1 ≤ 16 ∧ q.2.1 = 2 ^ q.1 / 2 ∧ G3.le q.2.2.2 ∧ Nm q.2.2.2 q.2.2.1 (a ^ (Q * 2 ^ (16 - q.1) + (dg 65536 e).getD i 0 / 2 ^ q.1) % M)) (fun q => [(0, m), (2, v), (7, q.2.2.1), (8, x), (9, .int .i64 i), (10, iv .i64 q.2.1)]) (fun _ => []) (fun q => q.2.2.2) (fun q => q.1) (16, 32768, o, H)
      ⟨Nat.le_refl _, (show (32768 : Nat) = 2 ^ 16 / 2 by decide), j2, by
        show Nm H o (a ^ (Q * 2 ^ (16 - 16) + (dg 65536 e).getD i 0 / 2 ^ 16) % M)
        rw [show (dg 65536 e).getD i 0 / 2 ^ 16 = 0 from Nat.div_eq_of_lt hdl, Nat.sub_self, Nat.pow_zero, Nat.mul_one, Nat.add_zero]; exact j3⟩ (by refine ⟨SL.get_fn (by with_unfolding_all rfl), SL.get_fn (by with_unfolding_all rfl), SL.get_fn (by with_unfolding_all rfl), SL.get_fn (by with_unfolding_all rfl), SL.get_fn (by with_unfolding_all rfl), SL.get_fn (by with_unfolding_all rfl), trivial⟩) trivial rfl ?_
    clear j3 j2
    rintro ⟨s1, t, o, H⟩ s2 l2 ⟨j3, jt, j4, j5⟩
    dsimp only at j3 jt j4 j5
    dsimp only [SL.sets, AL.sets]
    have hvH : Nu .i64 H v (dg 65536 e) := hv3.le j4
    rcases s1 with _ | r
    · have ht0 : t = 0 := jt
      (repeat' (first | (with_reducible refine i_ops ?_; first | (refine g_mv ?_; refine s_mv ?_) | refine o_nil ?_ | (refine g_len ?_; first | refine s_lenN ?_ | refine s_lenB ?_ | refine s_pure ?_) | (refine g_idx ?_; first | (refine s_idxN ?_; intro p hp; try simp only [Int.toNat_natCast] at hp) | (refine s_idxOB ?_; intro p hp hpw) | (refine s_idxB ?_; intro p hp)) | (refine g_pure ?_; first | refine s_maxE ?_ | refine s_nquo ?_ | refine s_nquoc ?_ | refine s_nremc ?_ | refine s_nilPf ?_ | refine s_nilPt ?_ | refine s_nilNf ?_ | refine s_nilNt ?_ | refine s_nilck ?_ | refine s_fptr0 ?_ | refine s_pure ?_ | refine s_saddB ?_) | (refine g_hload ?_; refine s_hloadP ?_)) | (with_reducible refine i_vc ?_; first | refine v_seq ?_ | refine v_ops ?_ | (refine g_cond ?_; first | refine s_cond_t ?_ | refine s_cond_f ?_) | refine v_block ?_ | refine v_skip ?_ | refine v_exit ?_ | refine v_ret ?_) | (with_reducible first | refine n_then ?_ | refine r_then ?_ | refine e_then ?_ | refine n_block ?_ | refine r_block ?_ | refine e_block_eq (by with_unfolding_all rfl) ?_ | refine e_block_ne (by with_unfolding_all rfl) ?_) | ((with_reducible first | refine s_cond_c ?_ ?_) <;> intro hb <;> rw [hb] <;> (try simp only [decide_eq_true_eq, decide_eq_false_iff_not, beq_iff_eq, bne_iff_ne, beq_eq_false_iff_ne, bne_eq_false_iff_eq, ne_eq, Int.not_lt, Int.not_le, gt_iff_lt, ge_iff_le, Bool.not_eq_true', Bool.not_eq_false'] at hb)) | ((with_reducible first | refine s_ret ?_ | refine s_normal ?_); try simp only [x_tup0, x_tup1, x_tup2, x_tup3, x_tup4, x_tup5, and_true, true_and])))
      · omega
      · rw [show 16 - 0 = 16 from rfl, Nat.pow_zero, Nat.div_one] at j5
        refine ⟨i, by omega, (i, o, H), rfl, ⟨by dsimp only; omega, j4, ?_⟩, (by refine ⟨SL.get_fn (by with_unfolding_all rfl), SL.get_fn (by with_unfolding_all rfl), SL.get_fn (by with_unfolding_all rfl), SL.get_fn (by with_unfolding_all rfl), SL.get_fn (by with_unfolding_all rfl), trivial⟩), trivial, rfl⟩
        dsimp only
        rw [hd, Nat.mul_comm 65536 Q]; exact j5
    · rw [show (2 : Nat) ^ (r + 1) / 2 = 2 ^ r by rw [Nat.pow_succ]; omega] at jt
      have h2r := Nat.two_pow_pos r
      have h2b : 2 ^ r ≤ 2 ^ 15 := Nat.pow_le_pow_right (by decide) (by omega)
      have h2h : t / 2 = 2 ^ r / 2 := by rw [jt]
      have hkk : Q * 2 ^ (16 - r) + (dg 65536 e).getD i 0 / 2 ^ r = 2 * (Q * 2 ^ (16 - (r + 1)) + (dg 65536 e).getD i 0 / 2 ^ (r + 1)) + (dg 65536 e).getD i 0 / 2 ^ r % 2 := by
        have e1 := pow_step (E := (dg 65536 e).getD i 0) (m := r)
        rw [show 16 - r = 16 - (r + 1) + 1 by omega, Nat.pow_succ, ← Nat.mul_assoc]
        generalize Q * 2 ^ (16 - (r + 1)) = z at *
        omega
      rw [← jt] at hkk
      have ht1 : 0 < t ∧ t ≤ 32768 := by rw [jt]; exact ⟨h2r, h2b⟩
      generalize Q * 2 ^ (16 - (r + 1)) + (dg 65536 e).getD i 0 / 2 ^ (r + 1) = K at *
      (repeat' (first | (with_reducible refine i_ops ?_; first | (refine g_mv ?_; refine s_mv ?_) | refine o_nil ?_ | (refine g_len ?_; first | refine s_lenN ?_ | refine s_lenB ?_ | refine s_pure ?_) | (refine g_idx ?_; first | (refine s_idxN ?_; intro p hp; try simp only [Int.toNat_natCast] at hp) | (refine s_idxOB ?_; intro p hp hpw) | (refine s_idxB ?_; intro p hp)) | (refine g_pure ?_; first | refine s_maxE ?_ | refine s_nquo ?_ | refine s_nquoc ?_ | refine s_nremc ?_ | refine s_nilPf ?_ | refine s_nilPt ?_ | refine s_nilNf ?_ | refine s_nilNt ?_ | refine s_nilck ?_ | refine s_fptr0 ?_ | refine s_pure ?_ | refine s_saddB ?_) | (refine g_hload ?_; refine s_hloadP ?_)) | (with_reducible refine i_vc ?_; first | refine v_seq ?_ | refine v_ops ?_ | (refine g_cond ?_; first | refine s_cond_t ?_ | refine s_cond_f ?_) | refine v_block ?_ | refine v_skip ?_ | refine v_exit ?_ | refine v_ret ?_) | (with_reducible first | refine n_then ?_ | refine r_then ?_ | refine e_then ?_ | refine n_block ?_ | refine r_block ?_ | refine e_block_eq (by with_unfolding_all rfl) ?_ | refine e_block_ne (by with_unfolding_all rfl) ?_) | ((with_reducible first | refine s_cond_c ?_ ?_) <;> intro hb <;> rw [hb] <;> (try simp only [decide_eq_true_eq, decide_eq_false_iff_not, beq_iff_eq, bne_iff_ne, beq_eq_false_iff_ne, bne_eq_false_iff_eq, ne_eq, Int.not_lt, Int.not_le, gt_iff_lt, ge_iff_le, Bool.not_eq_true', Bool.not_eq_false'] at hb)) | ((with_reducible first | refine s_ret ?_ | refine s_normal ?_); try simp only [x_tup0, x_tup1, x_tup2, x_tup3, x_tup4, x_tup5, and_true, true_and])))
      · refine o_callc (by with_unfolding_all rfl) (refMul (hm3.le j4) j5 j5 hM (by omega) (Nat.le_trans (lmo _) (by decide)) (Nat.le_trans (lmo _) (by decide))) ?_
        rw [modpow2]
        rintro o2 H2 ⟨e2, ho2⟩
        have hvH2 : Nu .i64 H2 v (dg 65536 e) := hvH.le e2
        have k42 := GH.le_trans j4 e2
        (repeat' (first | (with_reducible refine i_ops ?_; first | (refine g_mv ?_; refine s_mv ?_) | refine o_nil ?_ | (refine g_len ?_; first | refine s_lenN ?_ | refine s_lenB ?_ | refine s_pure ?_) | (refine g_idx ?_; first | (refine s_idxN ?_; intro p hp; try simp only [Int.toNat_natCast] at hp) | (refine s_idxOB ?_; intro p hp hpw) | (refine s_idxB ?_; intro p hp)) | (refine g_pure ?_; first | refine s_maxE ?_ | refine s_nquo ?_ | refine s_nquoc ?_ | refine s_nremc ?_ | refine s_nilPf ?_ | refine s_nilPt ?_ | refine s_nilNf ?_ | refine s_nilNt ?_ | refine s_nilck ?_ | refine s_fptr0 ?_ | refine s_pure ?_ | refine s_saddB ?_) | (refine g_hload ?_; refine s_hloadP ?_)) | (with_reducible refine i_vc ?_; first | refine v_seq ?_ | refine v_ops ?_ | (refine g_cond ?_; first | refine s_cond_t ?_ | refine s_cond_f ?_) | refine v_block ?_ | refine v_skip ?_ | refine v_exit ?_ | refine v_ret ?_) | (with_reducible first | refine n_then ?_ | refine r_then ?_ | refine e_then ?_ | refine n_block ?_ | refine r_block ?_ | refine e_block_eq (by with_unfolding_all rfl) ?_ | refine e_block_ne (by with_unfolding_all rfl) ?_) | ((with_reducible first | refine s_cond_c ?_ ?_) <;> intro hb <;> rw [hb] <;> (try simp only [decide_eq_true_eq, decide_eq_false_iff_not, beq_iff_eq, bne_iff_ne, beq_eq_false_iff_ne, bne_eq_false_iff_eq, ne_eq, Int.not_lt, Int.not_le, gt_iff_lt, ge_iff_le, Bool.not_eq_true', Bool.not_eq_false'] at hb)) | ((with_reducible first | refine s_ret ?_ | refine s_normal ?_); try simp only [x_tup0, x_tup1, x_tup2, x_tup3, x_tup4, x_tup5, and_true, true_and])))
        · have hb1 : (dg 65536 e).getD i 0 / t % 2 = 1 := by omega
          refine o_callc (by with_unfolding_all rfl) (refMul (hm3.le k42) ho2.sl (hx3.le k42) hM (by omega) (Nat.le_trans (lmo _) (by decide)) (Nat.le_trans (lmo _) (by decide))) ?_
          rw [modpow1]
          rintro o3 H3 ⟨e3, ho3⟩
          (repeat' (first | (with_reducible refine i_ops ?_; first | (refine g_mv ?_; refine s_mv ?_) | refine o_nil ?_ | (refine g_len ?_; first | refine s_lenN ?_ | refine s_lenB ?_ | refine s_pure ?_) | (refine g_idx ?_; first | (refine s_idxN ?_; intro p hp; try simp only [Int.toNat_natCast] at hp) | (refine s_idxOB ?_; intro p hp hpw) | (refine s_idxB ?_; intro p hp)) | (refine g_pure ?_; first | refine s_maxE ?_ | refine s_nquo ?_ | refine s_nquoc ?_ | refine s_nremc ?_ | refine s_nilPf ?_ | refine s_nilPt ?_ | refine s_nilNf ?_ | refine s_nilNt ?_ | refine s_nilck ?_ | refine s_fptr0 ?_ | refine s_pure ?_ | refine s_saddB ?_) | (refine g_hload ?_; refine s_hloadP ?_)) | (with_reducible refine i_vc ?_; first | refine v_seq ?_ | refine v_ops ?_ | (refine g_cond ?_; first | refine s_cond_t ?_ | refine s_cond_f ?_) | refine v_block ?_ | refine v_skip ?_ | refine v_exit ?_ | refine v_ret ?_) | (with_reducible first | refine n_then ?_ | refine r_then ?_ | refine e_then ?_ | refine n_block ?_ | refine r_block ?_ | refine e_block_eq (by with_unfolding_all rfl) ?_ | refine e_block_ne (by with_unfolding_all rfl) ?_) | ((with_reducible first | refine s_cond_c ?_ ?_) <;> intro hb <;> rw [hb] <;> (try simp only [decide_eq_true_eq, decide_eq_false_iff_not, beq_iff_eq, bne_iff_ne, beq_eq_false_iff_ne, bne_eq_false_iff_eq, ne_eq, Int.not_lt, Int.not_le, gt_iff_lt, ge_iff_le, Bool.not_eq_true', Bool.not_eq_false'] at hb)) | ((with_reducible first | refine s_ret ?_ | refine s_normal ?_); try simp only [x_tup0, x_tup1, x_tup2, x_tup3, x_tup4, x_tup5, and_true, true_and])))
          refine ⟨r, by omega, (r, t / 2, o3, H3), rfl, ⟨by dsimp only; omega, h2h, GH.le_trans k42 e3, ?_⟩, (by refine ⟨SL.get_fn (by with_unfolding_all rfl), SL.get_fn (by with_unfolding_all rfl), SL.get_fn (by with_unfolding_all rfl), SL.get_fn (by with_unfolding_all rfl), SL.get_fn (by with_unfolding_all rfl), SL.get_fn (by with_unfolding_all rfl), trivial⟩), trivial, rfl⟩
          dsimp only
          rw [← jt, hkk, hb1]
          exact ho3.sl
        · have hb1 : (dg 65536 e).getD i 0 / t % 2 = 0 := by omega
          refine ⟨r, by omega, (r, t / 2, o2, H2), rfl, ⟨by dsimp only; omega, h2h, k42, ?_⟩, (by refine ⟨SL.get_fn (by with_unfolding_all rfl), SL.get_fn (by with_unfolding_all rfl), SL.get_fn (by with_unfolding_all rfl), SL.get_fn (by with_unfolding_all rfl), SL.get_fn (by with_unfolding_all rfl), SL.get_fn (by with_unfolding_all rfl), trivial⟩), trivial, rfl⟩
          dsimp only
          rw [← jt, hkk, hb1, Nat.add_zero]
          exact ho2.sl
      · omega
  · have hj : j = 0 := by omega
    subst hj
    rw [Nat.pow_zero, Nat.div_one] at j3
    exact ⟨GH.le_trans k3 j2, j3⟩
end Go.Proofs.Ytiijcncdjjdglaa.V
