/- Which moduli may be; bits. -/
import Derived.Test.YtfacphjjkanajaaDoorBNE
import Derived.Test.YtfacphjjkanajaaDoorBCX
set_option linter.unusedSimpArgs false
set_option linter.unusedVariables false
-- @nums
-- @extra s_naddc s_nsubc s_nquoc s_nremc s_nmul
namespace Go.Proofs.YtfacphjjkanajaaDoor.V
open Go.RowKit Go.ChangeShapes Go.WideShapes
theorem dg_len_step {B : Nat} (hB : 2 ≤ B) {x : Nat} (h : 0 < x) : (dg B x).length = (dg B (x / B)).length + 1 := by
  rw [dg, dif_neg (by omega)]; simp
theorem dg2_len {n k : Nat} : (dg 2 n).length ≤ k ↔ n < 2 ^ k := by
  constructor
  · intro h
    have h1 := lt_dg (B := 2) (by decide) n
    have h2 := Nat.pow_le_pow_right (show 0 < 2 by decide) h
    omega
  · exact dg_len_le (by decide)
theorem top_bits {n : Nat} (h : 0 < (dg 65536 n).length) : 16 * ((dg 65536 n).length - 1) + (dg 2 ((dg 65536 n).getD ((dg 65536 n).length - 1) 0)).length = (dg 2 n).length := by
  have e1 := val_take_succ 65536 (dg 65536 n) ((dg 65536 n).length - 1)
  rw [Nat.sub_add_cancel h, List.take_of_length_le (Nat.le_refl _), val_dg (by decide)] at e1
  have e2 := val_lt ((dg_lt (B := 65536) (by decide) n).take ((dg 65536 n).length - 1))
  rw [List.length_take, Nat.min_eq_left (by omega)] at e2
  have ht : (dg 65536 n).getD ((dg 65536 n).length - 1) 0 ≠ 0 := by
    intro h0
    rw [h0, Nat.mul_zero, Nat.add_zero] at e1
    have := dg_len_le (B := 65536) (by decide) (show n < 65536 ^ ((dg 65536 n).length - 1) by omega)
    omega
  generalize (dg 65536 n).getD ((dg 65536 n).length - 1) 0 = t at *
  generalize (dg 65536 n).length - 1 = m at *
  generalize val 65536 ((dg 65536 n).take m) = r at *
  have eP : (65536 : Nat) ^ m = 2 ^ (16 * m) := by rw [Nat.pow_mul]
  rw [eP] at e1 e2
  have k1 := lt_dg (B := 2) (by decide) t
  have k0 : 0 < (dg 2 t).length := by
    rcases Nat.eq_zero_or_pos (dg 2 t).length with h0 | h0
    · have := (dg_ne (B := 2) (by decide)).1 (List.eq_nil_of_length_eq_zero h0); omega
    · exact h0
  have k2 : ¬ t < 2 ^ ((dg 2 t).length - 1) := fun h => by have := dg2_len.2 h; omega
  generalize (dg 2 t).length = k at *
  apply Nat.le_antisymm
  · have : ¬ (dg 2 n).length ≤ 16 * m + k - 1 := by
      rw [dg2_len, show 16 * m + k - 1 = 16 * m + (k - 1) by omega, Nat.pow_add]
      have := Nat.mul_le_mul_left (2 ^ (16 * m)) (Nat.le_of_not_lt k2)
      omega
    omega
  · rw [dg2_len, Nat.pow_add]
    have := Nat.mul_le_mul_left (2 ^ (16 * m)) (show t + 1 ≤ 2 ^ k by omega)
    rw [Nat.mul_add, Nat.mul_one] at this
    omega
theorem rBits {u : Value} {n : Nat} {G : GH} (h : Nm G u n) (hl : (dg 65536 n).length ≤ 1000) : HC Tryd.prog 13 #[u] G fun v G' => v = iv .i64 (dg 2 n).length ∧ G' = G := by
  have hu : Nu .i64 G u (dg 65536 n) := h
  have h0 : (dg 65536 n).length = 0 → (dg 2 n).length = 0 := fun h => by
    have : n = 0 := (dg_ne (B := 65536) (by decide)).1 (List.eq_nil_of_length_eq_zero h)
    subst this; rw [dg_zero]; rfl
  have ht := top_bits (n := n)
  have hg := (dg_lt (B := 65536) (by decide) n).getD (by decide) ((dg 65536 n).length - 1)
  have hk : (dg 2 ((dg 65536 n).getD ((dg 65536 n).length - 1) 0)).length ≤ 16 := dg2_len.2 hg
  refine HC.start comp13 rfl ?_; unfold pc13
  (repeat' (first | (with_reducible refine i_ops ?_; first | (refine g_mv ?_; refine s_mv ?_) | refine o_nil ?_ | (refine g_len ?_; first | refine s_lenN ?_ | refine s_lenB ?_ | refine s_pure ?_) | (refine g_idx ?_; first | (refine s_idxN ?_; intro p hp; try simp only [Int.toNat_natCast] at hp) | (refine s_idxOB ?_; intro p hp hpw) | (refine s_idxB ?_; intro p hp)) | (refine g_pure ?_; first | refine s_naddc ?_ | refine s_nsubc ?_ | refine s_nquoc ?_ | refine s_nremc ?_ | refine s_nmul ?_ | refine s_pure ?_ | refine s_saddB ?_) | (refine g_hload ?_; refine s_hloadP ?_)) | (with_reducible refine i_vc ?_; first | refine v_seq ?_ | refine v_ops ?_ | (refine g_cond ?_; first | refine s_cond_t ?_ | refine s_cond_f ?_) | refine v_block ?_ | refine v_skip ?_ | refine v_exit ?_ | refine v_ret ?_) | (with_reducible first | refine n_then ?_ | refine r_then ?_ | refine e_then ?_ | refine n_block ?_ | refine r_block ?_ | refine e_block_eq (by with_unfolding_all rfl) ?_ | refine e_block_ne (by with_unfolding_all rfl) ?_) | ((with_reducible first | refine s_cond_c ?_ ?_) <;> intro hb <;> rw [hb] <;> (try simp only [decide_eq_true_eq, decide_eq_false_iff_not, beq_iff_eq, bne_iff_ne, beq_eq_false_iff_ne, bne_eq_false_iff_eq, ne_eq, Int.not_lt, Int.not_le, gt_iff_lt, ge_iff_le, Bool.not_eq_true', Bool.not_eq_false'] at hb)) | ((with_reducible first | refine s_ret ?_ | refine s_normal ?_); try simp only [x_tup0, x_tup1, x_tup2, x_tup3, x_tup4, x_tup5, and_true, true_and])))
  · rw [h0 (by omega)]; rfl
  have ht2 := ht (by omega)
  have hT : (dg 2 n).length ≤ 16000 := by omega
  refine v_loopX (α := Nat × Nat) (fun q => q.1 + (dg 2 q.2).length = (dg 2 n).length ∧ q.2 < 65536) (fun q => [(3, iv .i64 q.1), (4, iv .i64 q.2)]) (fun _ => []) (fun _ => G) (fun q => q.2) (16 * ((dg 65536 n).length - 1), (dg 65536 n).getD ((dg 65536 n).length - 1) 0)
    ⟨ht2, hg⟩ (by refine ⟨SL.get_fn (by with_unfolding_all rfl), SL.get_fn (by with_unfolding_all rfl), trivial⟩) trivial rfl ?_
  clear ht ht2 hp hg hk
  rintro ⟨i, x⟩ s ll ⟨k1, k2⟩
  dsimp only at k1 k2
  dsimp only [SL.sets, AL.sets]
  (repeat' (first | (with_reducible refine i_ops ?_; first | (refine g_mv ?_; refine s_mv ?_) | refine o_nil ?_ | (refine g_len ?_; first | refine s_lenN ?_ | refine s_lenB ?_ | refine s_pure ?_) | (refine g_idx ?_; first | (refine s_idxN ?_; intro p hp; try simp only [Int.toNat_natCast] at hp) | (refine s_idxOB ?_; intro p hp hpw) | (refine s_idxB ?_; intro p hp)) | (refine g_pure ?_; first | refine s_naddc ?_ | refine s_nsubc ?_ | refine s_nquoc ?_ | refine s_nremc ?_ | refine s_nmul ?_ | refine s_pure ?_ | refine s_saddB ?_) | (refine g_hload ?_; refine s_hloadP ?_)) | (with_reducible refine i_vc ?_; first | refine v_seq ?_ | refine v_ops ?_ | (refine g_cond ?_; first | refine s_cond_t ?_ | refine s_cond_f ?_) | refine v_block ?_ | refine v_skip ?_ | refine v_exit ?_ | refine v_ret ?_) | (with_reducible first | refine n_then ?_ | refine r_then ?_ | refine e_then ?_ | refine n_block ?_ | refine r_block ?_ | refine e_block_eq (by with_unfolding_all rfl) ?_ | refine e_block_ne (by with_unfolding_all rfl) ?_) | ((with_reducible first | refine s_cond_c ?_ ?_) <;> intro hb <;> rw [hb] <;> (try simp only [decide_eq_true_eq, decide_eq_false_iff_not, beq_iff_eq, bne_iff_ne, beq_eq_false_iff_ne, bne_eq_false_iff_eq, ne_eq, Int.not_lt, Int.not_le, gt_iff_lt, ge_iff_le, Bool.not_eq_true', Bool.not_eq_false'] at hb)) | ((with_reducible first | refine s_ret ?_ | refine s_normal ?_); try simp only [x_tup0, x_tup1, x_tup2, x_tup3, x_tup4, x_tup5, and_true, true_and])))
  · have hs := dg_len_step (B := 2) (by decide) (show 0 < x by omega)
    exact ⟨x / 2, by omega, (i + 1, x / 2), rfl, ⟨by dsimp only; omega, by dsimp only; omega⟩, (by refine ⟨SL.get_fn (by with_unfolding_all rfl), SL.get_fn (by with_unfolding_all rfl), trivial⟩), trivial, rfl⟩
  · have hx : x = 0 := by omega
    subst hx
    rw [dg_zero] at k1
    rw [← k1]; rfl
end Go.Proofs.YtfacphjjkanajaaDoor.V
