/- Which moduli may be; bits. -/
import Derived.Test.YtiijcncdjjdglaaIQJ
set_option linter.unusedSimpArgs false
set_option linter.unusedVariables false
-- @nums
-- @extra s_naddc s_nsubc s_nquoc s_nremc s_nmul
namespace Go.Proofs.Ytiijcncdjjdglaa.V
open Go.RowKit Go.ChangeShapes Go.WideShapes
theorem dg_len_step {B : Nat} (hB : 2 ≤ B) {x : Nat} (h : 0 < x) : (dg B x).length = (dg B (x / B)).length + 1 := by
  rw [dg, dif_neg (by omega)]; simp
theorem dg2_len {n k : Nat} : (dg 2 n).length ≤ k ↔ n < 2 ^ k := by
  constructor
  · intro h
    have h1 := lt_dg (B := 2) (by decide) n
    have h2 := Nat.pow_le_pow_right (show 0 < 2 by decide) h
    omega
  · exact dg_len_le (by decide)
theorem dg64_len {n k : Nat} : (dg 18446744073709551616 n).length ≤ k ↔ n < 18446744073709551616 ^ k := by
  constructor
  · intro h
    have h1 := lt_dg (B := 18446744073709551616) (by decide) n
    have h2 := Nat.pow_le_pow_right (show 0 < 18446744073709551616 by decide) h
    omega
  · exact dg_len_le (by decide)
theorem bits64 {n k : Nat} : (dg 2 n).length ≤ 64 * k ↔ (dg 18446744073709551616 n).length ≤ k := by
  rw [dg2_len, dg64_len, Nat.pow_mul]
theorem dg_head {B : Nat} (hB : 2 ≤ B) (n : Nat) : (dg B n).getD 0 0 = n % B := by
  have h1 := val_split B (dg B n) 1
  have h2 : val B ((dg B n).take 1) = (dg B n).getD 0 0 := by
    rw [val_take_succ B _ 0]; simp [val]
  have h3 := (dg_lt hB n).getD (by omega) 0
  rw [h2, Nat.pow_one, val_dg hB] at h1
  conv => rhs; rw [h1]
  rw [Nat.add_mul_mod_self_left, Nat.mod_eq_of_lt h3]
theorem top_bits {n : Nat} (h : 0 < (dg 65536 n).length) : 16 * ((dg 65536 n).length - 1) + (dg 2 ((dg 65536 n).getD ((dg 65536 n).length - 1) 0)).length = (dg 2 n).length := by
  have e1 := val_take_succ 65536 (dg 65536 n) ((dg 65536 n).length - 1)
  rw [Nat.sub_add_cancel h, List.take_of_length_le (Nat.le_refl _), val_dg (by decide)] at e1
  have e2 := val_lt ((dg_lt (B := 65536) (by decide) n).take ((dg 65536 n).length - 1))
  rw [List.length_take, Nat.min_eq_left (by omega)] at e2
  have ht : (dg 65536 n).getD ((dg 65536 n).length - 1) 0 ≠ 0 := by
    intro h0
    rw [h0, Nat.mul_zero, Nat.add_zero] at e1
    have := dg_len_le (B := 65536) (by decide) (show n < 65536 ^ ((dg 65536 n).length - 1) by omega)
    omega
  generalize (dg 65536 n).getD ((dg 65536 n).length - 1) 0 = t at *
  generalize (dg 65536 n).length - 1 = m at *
  generalize val 65536 ((dg 65536 n).take m) = r at *
  have eP : (65536 : Nat) ^ m = 2 ^ (16 * m) := by rw [Nat.pow_mul]
  rw [eP] at e1 e2
  have k1 := lt_dg (B := 2) (by decide) t
  have k0 : 0 < (dg 2 t).length := by
    rcases Nat.eq_zero_or_pos (dg 2 t).length with h0 | h0
    · have := (dg_ne (B := 2) (by decide)).1 (List.eq_nil_of_length_eq_zero h0); omega
    · exact h0
  have k2 : ¬ t < 2 ^ ((dg 2 t).length - 1) := fun h => by have := dg2_len.2 h; omega
  generalize (dg 2 t).length = k at *
  apply Nat.le_antisymm
  · have : ¬ (dg 2 n).length ≤ 16 * m + k - 1 := by
      rw [dg2_len, show 16 * m + k - 1 = 16 * m + (k - 1) by omega, Nat.pow_add]
      have := Nat.mul_le_mul_left (2 ^ (16 * m)) (Nat.le_of_not_lt k2)
      omega
    omega
  · rw [dg2_len, Nat.pow_add]
    have := Nat.mul_le_mul_left (2 ^ (16 * m)) (show t + 1 ≤ 2 ^ k by omega)
    rw [Nat.mul_add, Nat.mul_one] at this
    omega
theorem rBits {u : Value} {n : Nat} {G : GH} (h : Nm G u n) (hl : (dg 65536 n).length ≤ 1000) : HC Try.prog 26 #[u] G fun v G' => v = iv .i64 (dg 2 n).length ∧ G' = G := by
  have hu : Nu .i64 G u (dg 65536 n) := h
  have h0 : (dg 65536 n).length = 0 → (dg 2 n).length = 0 := fun h => by
    have : n = 0 := (dg_ne (B := 65536) (by decide)).1 (List.eq_nil_of_length_eq_zero h)
    subst this; rw [dg_zero]; rfl
  have ht := top_bits (n := n)
  have hg := (dg_lt (B := 65536) (by decide) n).getD (by decide) ((dg 65536 n).length - 1)
  have hk : (dg 2 ((dg 65536 n).getD ((dg 65536 n).length - 1) 0)).length ≤ 16 := dg2_len.2 hg
  refine HC.start comp26 rfl ?_; unfold pc26
  (repeat' (first | (with_reducible refine i_ops ?_; first | (refine g_mv ?_; refine s_mv ?_) | refine o_nil ?_ | (refine g_some ?_; first | refine s_g_t ?_ | refine s_g_f ?_ | refine s_g_f' ?_ | refine s_g_u ?_) | (refine g_pick ?_; first | refine s_pick_t ?_ | refine s_pick_f ?_) | (refine g_len ?_; first | refine s_lenN ?_ | refine s_lenB ?_ | refine s_pure ?_) | (refine g_idx ?_; first | (refine s_idxN ?_; intro p hp; try simp only [Int.toNat_natCast] at hp) | (refine s_idxOB ?_; intro p hp hpw) | (refine s_idxB ?_; intro p hp)) | (refine g_pure ?_; first | refine s_naddc ?_ | refine s_nsubc ?_ | refine s_nquoc ?_ | refine s_nremc ?_ | refine s_nmul ?_ | refine s_pure ?_ | refine s_saddB ?_) | (refine g_hload ?_; refine s_hloadP ?_)) | (with_reducible refine i_vc ?_; first | refine v_seq ?_ | refine v_ops ?_ | (refine g_cond ?_; first | refine s_cond_t ?_ | refine s_cond_f ?_) | refine v_block ?_ | refine v_skip ?_ | refine v_exit ?_ | refine v_ret ?_) | (with_reducible first | refine n_then ?_ | refine r_then ?_ | refine e_then ?_ | refine n_block ?_ | refine r_block ?_ | refine e_block_eq (by with_unfolding_all rfl) ?_ | refine e_block_ne (by with_unfolding_all rfl) ?_) | ((with_reducible first | refine s_g_c ?_ ?_ | refine s_cond_c ?_ ?_) <;> intro hb <;> rw [hb] <;> (try simp only [decide_eq_true_eq, decide_eq_false_iff_not, beq_iff_eq, bne_iff_ne, beq_eq_false_iff_ne, bne_eq_false_iff_eq, ne_eq, Int.not_lt, Int.not_le, gt_iff_lt, ge_iff_le, Bool.not_eq_true', Bool.not_eq_false'] at hb)) | ((with_reducible first | refine s_ret ?_ | refine s_normal ?_); try simp only [x_tup0, x_tup1, x_tup2, x_tup3, x_tup4, x_tup5, and_true, true_and])))
  · rw [h0 (by omega)]; rfl
  have ht2 := ht (by omega)
  have hT : (dg 2 n).length ≤ 16000 := by omega
  refine v_loopX (α := Nat × Nat) (fun q => q.1 + (dg 2 q.2).length = (dg 2 n).length ∧ q.2 < 65536) (fun q => [(3, iv .i64 q.1), (4, iv .i64 q.2)]) (fun _ => []) (fun _ => G) (fun q => q.2) (16 * ((dg 65536 n).length - 1), (dg 65536 n).getD ((dg 65536 n).length - 1) 0)
    ⟨ht2, hg⟩ (by refine ⟨SL.get_fn (by with_unfolding_all rfl), SL.get_fn (by with_unfolding_all rfl), trivial⟩) trivial rfl ?_
  clear ht ht2 hp hg hk
  rintro ⟨i, x⟩ s ll ⟨k1, k2⟩
  dsimp only at k1 k2
  dsimp only [SL.sets, AL.sets]
  (repeat' (first | (with_reducible refine i_ops ?_; first | (refine g_mv ?_; refine s_mv ?_) | refine o_nil ?_ | (refine g_some ?_; first | refine s_g_t ?_ | refine s_g_f ?_ | refine s_g_f' ?_ | refine s_g_u ?_) | (refine g_pick ?_; first | refine s_pick_t ?_ | refine s_pick_f ?_) | (refine g_len ?_; first | refine s_lenN ?_ | refine s_lenB ?_ | refine s_pure ?_) | (refine g_idx ?_; first | (refine s_idxN ?_; intro p hp; try simp only [Int.toNat_natCast] at hp) | (refine s_idxOB ?_; intro p hp hpw) | (refine s_idxB ?_; intro p hp)) | (refine g_pure ?_; first | refine s_naddc ?_ | refine s_nsubc ?_ | refine s_nquoc ?_ | refine s_nremc ?_ | refine s_nmul ?_ | refine s_pure ?_ | refine s_saddB ?_) | (refine g_hload ?_; refine s_hloadP ?_)) | (with_reducible refine i_vc ?_; first | refine v_seq ?_ | refine v_ops ?_ | (refine g_cond ?_; first | refine s_cond_t ?_ | refine s_cond_f ?_) | refine v_block ?_ | refine v_skip ?_ | refine v_exit ?_ | refine v_ret ?_) | (with_reducible first | refine n_then ?_ | refine r_then ?_ | refine e_then ?_ | refine n_block ?_ | refine r_block ?_ | refine e_block_eq (by with_unfolding_all rfl) ?_ | refine e_block_ne (by with_unfolding_all rfl) ?_) | ((with_reducible first | refine s_g_c ?_ ?_ | refine s_cond_c ?_ ?_) <;> intro hb <;> rw [hb] <;> (try simp only [decide_eq_true_eq, decide_eq_false_iff_not, beq_iff_eq, bne_iff_ne, beq_eq_false_iff_ne, bne_eq_false_iff_eq, ne_eq, Int.not_lt, Int.not_le, gt_iff_lt, ge_iff_le, Bool.not_eq_true', Bool.not_eq_false'] at hb)) | ((with_reducible first | refine s_ret ?_ | refine s_normal ?_); try simp only [x_tup0, x_tup1, x_tup2, x_tup3, x_tup4, x_tup5, and_true, true_and])))
  · have hs := dg_len_step (B := 2) (by decide) (show 0 < x by omega)
    exact ⟨x / 2, by omega, (i + 1, x / 2), rfl, ⟨by dsimp only; omega, by dsimp only; omega⟩, (by refine ⟨SL.get_fn (by with_unfolding_all rfl), SL.get_fn (by with_unfolding_all rfl), trivial⟩), trivial, rfl⟩
  · have hx : x = 0 := by omega
    subst hx
    rw [dg_zero] at k1
    rw [← k1]; rfl
def MayR (G : GH) (n : Nat) (v : Value) (G' : GH) : Prop := G.le G' ∧ ((8 < (dg 18446744073709551616 n).length ∧ v = .tuple #[.slice none 0 0, .int .i64 3]) ∨ ((dg 18446744073709551616 n).length ≤ 8 ∧ (n % 2 = 0 ∨ n = 1) ∧ v = .tuple #[.slice none 0 0, .int .i64 2]) ∨
  ((dg 18446744073709551616 n).length ≤ 8 ∧ n % 2 = 1 ∧ 1 < n ∧ ∃ w, v = .tuple #[w, .int .i64 0] ∧ Own 1 G G' w ((dg 65536 n).map (iv .i64))))
theorem ln8 {xs : List Nat} (h : ln xs ≤ 64) : (dg 65536 (val 18446744073709551616 xs)).length ≤ 256 := by
  have := (dg_len16 (val 18446744073709551616 xs)).1
  unfold ln at h; omega
theorem one16 {n : Nat} : n = 1 ↔ (dg 65536 n).length = 1 ∧ (dg 65536 n).getD 0 0 = 1 := by
  have h0 := dg_head (B := 65536) (by decide) n
  constructor
  · rintro rfl
    refine ⟨?_, by rw [h0]⟩
    have h1 := dg_len_le (B := 65536) (by decide) (k := 1) (n := 1) (by decide)
    have h2 := dg_len_ge (B := 65536) (by decide) (k := 0) (n := 1) (by decide)
    omega
  · rintro ⟨h1, h2⟩
    have h3 := lt_dg (B := 65536) (by decide) n
    rw [h1, Nat.pow_one] at h3
    rw [Nat.mod_eq_of_lt h3] at h0
    omega
theorem May (u : Value) (xs : List Nat) (G : GH) (h : Nu .u64 G u xs) (hd : Dl 18446744073709551616 xs) : HC Try.prog 43 #[u] G fun v G' => MayR G (val 18446744073709551616 xs) v G' := by
  refine HC.start comp43 rfl ?_; unfold pc43
  (repeat' (first | (with_reducible refine i_ops ?_; first | (refine g_mv ?_; refine s_mv ?_) | refine o_nil ?_ | (refine g_some ?_; first | refine s_g_t ?_ | refine s_g_f ?_ | refine s_g_f' ?_ | refine s_g_u ?_) | (refine g_pick ?_; first | refine s_pick_t ?_ | refine s_pick_f ?_) | (refine g_len ?_; first | refine s_lenN ?_ | refine s_lenB ?_ | refine s_pure ?_) | (refine g_idx ?_; first | (refine s_idxN ?_; intro p hp; try simp only [Int.toNat_natCast] at hp) | (refine s_idxOB ?_; intro p hp hpw) | (refine s_idxB ?_; intro p hp)) | (refine g_pure ?_; first | refine s_naddc ?_ | refine s_nsubc ?_ | refine s_nquoc ?_ | refine s_nremc ?_ | refine s_nmul ?_ | refine s_pure ?_ | refine s_saddB ?_) | (refine g_hload ?_; refine s_hloadP ?_)) | (with_reducible refine i_vc ?_; first | refine v_seq ?_ | refine v_ops ?_ | (refine g_cond ?_; first | refine s_cond_t ?_ | refine s_cond_f ?_) | refine v_block ?_ | refine v_skip ?_ | refine v_exit ?_ | refine v_ret ?_) | (with_reducible first | refine n_then ?_ | refine r_then ?_ | refine e_then ?_ | refine n_block ?_ | refine r_block ?_ | refine e_block_eq (by with_unfolding_all rfl) ?_ | refine e_block_ne (by with_unfolding_all rfl) ?_) | ((with_reducible first | refine s_g_c ?_ ?_ | refine s_cond_c ?_ ?_) <;> intro hb <;> rw [hb] <;> (try simp only [decide_eq_true_eq, decide_eq_false_iff_not, beq_iff_eq, bne_iff_ne, beq_eq_false_iff_ne, bne_eq_false_iff_eq, ne_eq, Int.not_lt, Int.not_le, gt_iff_lt, ge_iff_le, Bool.not_eq_true', Bool.not_eq_false'] at hb)) | ((with_reducible first | refine s_ret ?_ | refine s_normal ?_); try simp only [x_tup0, x_tup1, x_tup2, x_tup3, x_tup4, x_tup5, and_true, true_and])))
  refine o_callc (by with_unfolding_all rfl) (Of u xs G h hd) ?_
  rintro _ G1 ⟨hle, ⟨h6, w, rfl, hw⟩ | ⟨h6, rfl⟩⟩
  · have h16 := ln8 h6
    have hb6 := bits64 (n := val 18446744073709551616 xs) (k := 8)
    have ho := one16 (n := val 18446744073709551616 xs)
    have hh := dg_head (B := 65536) (by decide) (val 18446744073709551616 xs)
    have hz := dg_ne (B := 65536) (n := val 18446744073709551616 xs) (by decide)
    have hz2 : (dg 65536 (val 18446744073709551616 xs)).length = 0 → val 18446744073709551616 xs = 0 := fun h => hz.1 (List.eq_nil_of_length_eq_zero h)
    have hwn : Nu .i64 G1 w (dg 65536 (val 18446744073709551616 xs)) := hw.sl
    unfold ln at h6
    generalize val 18446744073709551616 xs = n at *
    (repeat' (first | (with_reducible refine i_ops ?_; first | (refine g_mv ?_; refine s_mv ?_) | refine o_nil ?_ | (refine g_some ?_; first | refine s_g_t ?_ | refine s_g_f ?_ | refine s_g_f' ?_ | refine s_g_u ?_) | (refine g_pick ?_; first | refine s_pick_t ?_ | refine s_pick_f ?_) | (refine g_len ?_; first | refine s_lenN ?_ | refine s_lenB ?_ | refine s_pure ?_) | (refine g_idx ?_; first | (refine s_idxN ?_; intro p hp; try simp only [Int.toNat_natCast] at hp) | (refine s_idxOB ?_; intro p hp hpw) | (refine s_idxB ?_; intro p hp)) | (refine g_pure ?_; first | refine s_naddc ?_ | refine s_nsubc ?_ | refine s_nquoc ?_ | refine s_nremc ?_ | refine s_nmul ?_ | refine s_pure ?_ | refine s_saddB ?_) | (refine g_hload ?_; refine s_hloadP ?_) | refine o_callp (by with_unfolding_all rfl) (by first | exact rBits hw.sl (by omega)) ?_ | (refine o_callg (by with_unfolding_all rfl) (by first | exact rBits hw.sl (by omega)) ?_; intro G' hle)) | (with_reducible refine i_vc ?_; first | refine v_seq ?_ | refine v_ops ?_ | (refine g_cond ?_; first | refine s_cond_t ?_ | refine s_cond_f ?_) | refine v_block ?_ | refine v_skip ?_ | refine v_exit ?_ | refine v_ret ?_) | (with_reducible first | refine n_then ?_ | refine r_then ?_ | refine e_then ?_ | refine n_block ?_ | refine r_block ?_ | refine e_block_eq (by with_unfolding_all rfl) ?_ | refine e_block_ne (by with_unfolding_all rfl) ?_) | ((with_reducible first | refine s_g_c ?_ ?_ | refine s_cond_c ?_ ?_) <;> intro hb <;> rw [hb] <;> (try simp only [decide_eq_true_eq, decide_eq_false_iff_not, beq_iff_eq, bne_iff_ne, beq_eq_false_iff_ne, bne_eq_false_iff_eq, ne_eq, Int.not_lt, Int.not_le, gt_iff_lt, ge_iff_le, Bool.not_eq_true', Bool.not_eq_false'] at hb)) | ((with_reducible first | refine s_ret ?_ | refine s_normal ?_); try simp only [x_tup0, x_tup1, x_tup2, x_tup3, x_tup4, x_tup5, and_true, true_and])))
    · exact ⟨hle, .inl ⟨by omega, rfl⟩⟩
    · exact ⟨hle, .inr (.inl ⟨by omega, .inl (by rw [hz2 (by omega)]), rfl⟩)⟩
    · exact ⟨hle, .inr (.inl ⟨by omega, .inl (by omega), rfl⟩)⟩
    · exact ⟨hle, .inr (.inl ⟨by omega, .inr (ho.2 ⟨by omega, by omega⟩), rfl⟩)⟩
    · have h3 : n ≠ 1 := fun h => by have := ho.1 h; omega
      have h4 : n ≠ 0 := fun h => by subst h; omega
      exact ⟨hle, .inr (.inr ⟨by omega, by omega, by omega, w, rfl, hw⟩)⟩
    · have h3 : n ≠ 1 := fun h => by have := ho.1 h; omega
      have h4 : n ≠ 0 := fun h => by subst h; omega
      exact ⟨hle, .inr (.inr ⟨by omega, by omega, by omega, w, rfl, hw⟩)⟩
  · (repeat' (first | (with_reducible refine i_ops ?_; first | (refine g_mv ?_; refine s_mv ?_) | refine o_nil ?_ | (refine g_some ?_; first | refine s_g_t ?_ | refine s_g_f ?_ | refine s_g_f' ?_ | refine s_g_u ?_) | (refine g_pick ?_; first | refine s_pick_t ?_ | refine s_pick_f ?_) | (refine g_len ?_; first | refine s_lenN ?_ | refine s_lenB ?_ | refine s_pure ?_) | (refine g_idx ?_; first | (refine s_idxN ?_; intro p hp; try simp only [Int.toNat_natCast] at hp) | (refine s_idxOB ?_; intro p hp hpw) | (refine s_idxB ?_; intro p hp)) | (refine g_pure ?_; first | refine s_naddc ?_ | refine s_nsubc ?_ | refine s_nquoc ?_ | refine s_nremc ?_ | refine s_nmul ?_ | refine s_pure ?_ | refine s_saddB ?_) | (refine g_hload ?_; refine s_hloadP ?_)) | (with_reducible refine i_vc ?_; first | refine v_seq ?_ | refine v_ops ?_ | (refine g_cond ?_; first | refine s_cond_t ?_ | refine s_cond_f ?_) | refine v_block ?_ | refine v_skip ?_ | refine v_exit ?_ | refine v_ret ?_) | (with_reducible first | refine n_then ?_ | refine r_then ?_ | refine e_then ?_ | refine n_block ?_ | refine r_block ?_ | refine e_block_eq (by with_unfolding_all rfl) ?_ | refine e_block_ne (by with_unfolding_all rfl) ?_) | ((with_reducible first | refine s_g_c ?_ ?_ | refine s_cond_c ?_ ?_) <;> intro hb <;> rw [hb] <;> (try simp only [decide_eq_true_eq, decide_eq_false_iff_not, beq_iff_eq, bne_iff_ne, beq_eq_false_iff_ne, bne_eq_false_iff_eq, ne_eq, Int.not_lt, Int.not_le, gt_iff_lt, ge_iff_le, Bool.not_eq_true', Bool.not_eq_false'] at hb)) | ((with_reducible first | refine s_ret ?_ | refine s_normal ?_); try simp only [x_tup0, x_tup1, x_tup2, x_tup3, x_tup4, x_tup5, and_true, true_and])))
    unfold ln at h6
    exact ⟨hle, .inl ⟨by omega, rfl⟩⟩
end Go.Proofs.Ytiijcncdjjdglaa.V
