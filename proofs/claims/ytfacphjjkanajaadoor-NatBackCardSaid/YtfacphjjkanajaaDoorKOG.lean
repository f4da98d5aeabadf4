/- NatBack. -/
import Derived.Test.YtfacphjjkanajaaDoorKOF
import Derived.Test.YtfacphjjkanajaaDoorKNJ
set_option linter.unusedSimpArgs false
set_option linter.unusedVariables false
-- @nums
-- @extra s_wshr s_wremc s_nsub s_nsubc s_naddc s_nquoc s_nremc s_wconv
namespace Go.Proofs.YtfacphjjkanajaaDoor.V
open Go.RowKit Go.ChangeShapes Go.WideShapes
theorem dg256_len {n k : Nat} : (dg 256 n).length ≤ k ↔ n < 256 ^ k := by
  constructor
  · intro h
    have h1 := lt_dg (B := 256) (by decide) n
    have h2 := Nat.pow_le_pow_right (show 0 < 256 by decide) h
    omega
  · exact dg_len_le (by decide)
theorem len_bits (n : Nat) : (dg 256 n).length = ((dg 2 n).length + 7) / 8 := by
  have h : ∀ k, (dg 256 n).length ≤ k ↔ (dg 2 n).length ≤ 8 * k := fun k => by rw [dg256_len, dg2_len, Nat.pow_mul]
  have h1 := (h (dg 256 n).length).1 (Nat.le_refl _)
  have h2 := h ((dg 256 n).length - 1)
  omega
theorem strip_head {bs : List UInt8} (h : strip bs = bs) : bs.length = 0 ∨ (bs.getD 0 0).toNat ≠ 0 := by
  cases bs with
  | nil => exact .inl rfl
  | cons b r =>
    right
    intro h0
    rw [strip_pos (by simpa using h0)] at h
    have := strip_len r
    rw [h] at this
    simp at this
    omega
theorem strip_bytes (n : Nat) : strip (bytesOf n) = bytesOf n := by rw [← bytes_num, num_bytes]
theorem bit_byte (n k : Nat) : (dg 256 n).getD (k / 8) 0 / 2 ^ (k % 8) % 2 = n / 2 ^ k % 2 := by
  rw [dg_at (by decide)]
  have e : (2 : Nat) ^ k = 256 ^ (k / 8) * 2 ^ (k % 8) := by
    have : (256 : Nat) ^ (k / 8) = 2 ^ (8 * (k / 8)) := by rw [Nat.pow_mul]
    rw [this, ← Nat.pow_add, Nat.div_add_mod]
  rw [e, ← Nat.div_div_eq_div_mul]
  generalize n / 256 ^ (k / 8) = y
  have h8 : k % 8 < 8 := Nat.mod_lt _ (by decide)
  generalize k % 8 = t at *
  have h256 : (256 : Nat) = 2 ^ t * (2 * 2 ^ (7 - t)) := by
    rw [← Nat.pow_succ', ← Nat.pow_add, show t + (7 - t + 1) = 8 by omega]
  conv => rhs; rw [← Nat.mod_add_div y 256]
  conv => rhs; rw [h256, Nat.mul_assoc, Nat.add_mul_div_left _ _ (Nat.two_pow_pos _), Nat.mul_assoc, Nat.add_mul_mod_self_left, ← h256]
theorem bit_top {n : Nat} (h : 0 < (dg 2 n).length) : n / 2 ^ ((dg 2 n).length - 1) % 2 = 1 := by
  have h1 := lt_dg (B := 2) (by decide) n
  have h2 : 2 ^ ((dg 2 n).length - 1) ≤ n := Nat.le_of_not_lt fun h => by have := dg2_len.2 h; omega
  rw [show (2 : Nat) ^ (dg 2 n).length = 2 ^ ((dg 2 n).length - 1) * 2 by rw [← Nat.pow_succ]; congr 1; omega] at h1
  have h3 : n / 2 ^ ((dg 2 n).length - 1) = 1 := by
    apply Nat.le_antisymm
    · exact Nat.le_of_lt_succ (Nat.div_lt_of_lt_mul h1)
    · exact (Nat.one_le_div_iff (Nat.two_pow_pos _)).2 h2
  rw [h3]
theorem lawBack (ua : Value) (al : List Nat) (i : Int) (G : GH) (ha : Nu .u64 G ua al) (da : Dl 18446744073709551616 al) (hi : -9223372036854775808 ≤ i ∧ i ≤ 9223372036854775807) :
    HC Tryd.prog 4 #[ua, .int .i64 i] G fun v G' => v = .bool true ∧ G.le G' := by
  refine HC.start comp4 rfl ?_; unfold pc4
  (repeat' (first | (with_reducible refine i_ops ?_; first | (refine g_mv ?_; refine s_mv ?_) | refine o_nil ?_ | (refine g_some ?_; first | refine s_g_t ?_ | refine s_g_f ?_ | refine s_g_f' ?_ | refine s_g_u ?_) | (refine g_pick ?_; first | refine s_pick_t ?_ | refine s_pick_f ?_) | (refine g_len ?_; first | refine s_lenN ?_ | refine s_lenB ?_ | refine s_pure ?_) | (refine g_idx ?_; first | (refine s_idxN ?_; intro p hp; try simp only [Int.toNat_natCast] at hp) | (refine s_idxOB ?_; intro p hp hpw) | (refine s_idxB ?_; intro p hp)) | (refine g_pure ?_; first | refine s_wshr ?_ | refine s_wremc ?_ | refine s_nsub ?_ | refine s_nsubc ?_ | refine s_naddc ?_ | refine s_nquoc ?_ | refine s_nremc ?_ | refine s_wconv ?_ | refine s_pure ?_ | refine s_saddB ?_) | (refine g_hload ?_; refine s_hloadP ?_)) | (with_reducible refine i_vc ?_; first | refine v_seq ?_ | refine v_ops ?_ | (refine g_cond ?_; first | refine s_cond_t ?_ | refine s_cond_f ?_) | refine v_skip ?_ | refine v_ret ?_) | (with_reducible first | refine n_then ?_ | refine r_then ?_ | refine e_then ?_) | ((with_reducible first | refine s_g_c ?_ ?_ | refine s_cond_c ?_ ?_) <;> intro hb <;> rw [hb] <;> (try simp only [decide_eq_true_eq, decide_eq_false_iff_not, beq_iff_eq, bne_iff_ne, beq_eq_false_iff_ne, bne_eq_false_iff_eq, ne_eq, Int.not_lt, Int.not_le, gt_iff_lt, ge_iff_le, Bool.not_eq_true', Bool.not_eq_false'] at hb)) | ((with_reducible first | refine s_ret ?_ | refine s_normal ?_); try simp only [x_tup0, x_tup1, x_tup2, x_tup3, x_tup4, x_tup5, and_true, true_and])))
  refine o_callc (by with_unfolding_all rfl) (cutR 64 ha da (by decide)) ?_
  rintro w _ ⟨rfl, n, ⟨xs, hw, hd, hn⟩, hs⟩
  have hln : ln xs ≤ 64 := by unfold ln; rw [hn]; exact hs
  have e0 : er xs = 0 := if_pos hln
  have en : nv xs = n := by unfold nv; rw [if_pos hln, hn]
  have hsL : (bytesOf n).length ≤ 512 := by
    rw [bytes_len]
    exact small8 (m := 64) hs
  (repeat' (first | (with_reducible refine i_ops ?_; first | (refine g_mv ?_; refine s_mv ?_) | refine o_nil ?_ | (refine g_some ?_; first | refine s_g_t ?_ | refine s_g_f ?_ | refine s_g_f' ?_ | refine s_g_u ?_) | (refine g_pick ?_; first | refine s_pick_t ?_ | refine s_pick_f ?_) | (refine g_len ?_; first | refine s_lenN ?_ | refine s_lenB ?_ | refine s_pure ?_) | (refine g_idx ?_; first | (refine s_idxN ?_; intro p hp; try simp only [Int.toNat_natCast] at hp) | (refine s_idxOB ?_; intro p hp hpw) | (refine s_idxB ?_; intro p hp)) | (refine g_pure ?_; first | refine s_wshr ?_ | refine s_wremc ?_ | refine s_nsub ?_ | refine s_nsubc ?_ | refine s_naddc ?_ | refine s_nquoc ?_ | refine s_nremc ?_ | refine s_wconv ?_ | refine s_pure ?_ | refine s_saddB ?_) | (refine g_hload ?_; refine s_hloadP ?_)) | (with_reducible refine i_vc ?_; first | refine v_seq ?_ | refine v_ops ?_ | (refine g_cond ?_; first | refine s_cond_t ?_ | refine s_cond_f ?_) | refine v_skip ?_ | refine v_ret ?_) | (with_reducible first | refine n_then ?_ | refine r_then ?_ | refine e_then ?_) | ((with_reducible first | refine s_g_c ?_ ?_ | refine s_cond_c ?_ ?_) <;> intro hb <;> rw [hb] <;> (try simp only [decide_eq_true_eq, decide_eq_false_iff_not, beq_iff_eq, bne_iff_ne, beq_eq_false_iff_ne, bne_eq_false_iff_eq, ne_eq, Int.not_lt, Int.not_le, gt_iff_lt, ge_iff_le, Bool.not_eq_true', Bool.not_eq_false'] at hb)) | ((with_reducible first | refine s_ret ?_ | refine s_normal ?_); try simp only [x_tup0, x_tup1, x_tup2, x_tup3, x_tup4, x_tup5, and_true, true_and])))
  refine o_callc (by with_unfolding_all rfl) (nBytesE hw hd) ?_
  rw [e0, en]
  rintro _ G1 ⟨h1, b, rfl, hb⟩
  have hbb : By G1 b (bytesOf n) := hb.sl
  (repeat' (first | (with_reducible refine i_ops ?_; first | (refine g_mv ?_; refine s_mv ?_) | refine o_nil ?_ | (refine g_some ?_; first | refine s_g_t ?_ | refine s_g_f ?_ | refine s_g_f' ?_ | refine s_g_u ?_) | (refine g_pick ?_; first | refine s_pick_t ?_ | refine s_pick_f ?_) | (refine g_len ?_; first | refine s_lenN ?_ | refine s_lenB ?_ | refine s_pure ?_) | (refine g_idx ?_; first | (refine s_idxN ?_; intro p hp; try simp only [Int.toNat_natCast] at hp) | (refine s_idxOB ?_; intro p hp hpw) | (refine s_idxB ?_; intro p hp)) | (refine g_pure ?_; first | refine s_wshr ?_ | refine s_wremc ?_ | refine s_nsub ?_ | refine s_nsubc ?_ | refine s_naddc ?_ | refine s_nquoc ?_ | refine s_nremc ?_ | refine s_wconv ?_ | refine s_pure ?_ | refine s_saddB ?_) | (refine g_hload ?_; refine s_hloadP ?_)) | (with_reducible refine i_vc ?_; first | refine v_seq ?_ | refine v_ops ?_ | (refine g_cond ?_; first | refine s_cond_t ?_ | refine s_cond_f ?_) | refine v_skip ?_ | refine v_ret ?_) | (with_reducible first | refine n_then ?_ | refine r_then ?_ | refine e_then ?_) | ((with_reducible first | refine s_g_c ?_ ?_ | refine s_cond_c ?_ ?_) <;> intro hb <;> rw [hb] <;> (try simp only [decide_eq_true_eq, decide_eq_false_iff_not, beq_iff_eq, bne_iff_ne, beq_eq_false_iff_ne, bne_eq_false_iff_eq, ne_eq, Int.not_lt, Int.not_le, gt_iff_lt, ge_iff_le, Bool.not_eq_true', Bool.not_eq_false'] at hb)) | ((with_reducible first | refine s_ret ?_ | refine s_normal ?_); try simp only [x_tup0, x_tup1, x_tup2, x_tup3, x_tup4, x_tup5, and_true, true_and])))
  refine o_callc (by with_unfolding_all rfl) (FromE hbb) ?_
  have ef : fe (bytesOf n) = 0 := by unfold fe; rw [strip_bytes, if_pos hsL]
  rw [ef, strip_bytes, num_bytes]
  rintro _ G2 ⟨h2, x, rfl, _, hx⟩
  have hx := hx hsL
  have k2 := GH.le_trans h1 h2
  (repeat' (first | (with_reducible refine i_ops ?_; first | (refine g_mv ?_; refine s_mv ?_) | refine o_nil ?_ | (refine g_some ?_; first | refine s_g_t ?_ | refine s_g_f ?_ | refine s_g_f' ?_ | refine s_g_u ?_) | (refine g_pick ?_; first | refine s_pick_t ?_ | refine s_pick_f ?_) | (refine g_len ?_; first | refine s_lenN ?_ | refine s_lenB ?_ | refine s_pure ?_) | (refine g_idx ?_; first | (refine s_idxN ?_; intro p hp; try simp only [Int.toNat_natCast] at hp) | (refine s_idxOB ?_; intro p hp hpw) | (refine s_idxB ?_; intro p hp)) | (refine g_pure ?_; first | refine s_wshr ?_ | refine s_wremc ?_ | refine s_nsub ?_ | refine s_nsubc ?_ | refine s_naddc ?_ | refine s_nquoc ?_ | refine s_nremc ?_ | refine s_wconv ?_ | refine s_pure ?_ | refine s_saddB ?_) | (refine g_hload ?_; refine s_hloadP ?_)) | (with_reducible refine i_vc ?_; first | refine v_seq ?_ | refine v_ops ?_ | (refine g_cond ?_; first | refine s_cond_t ?_ | refine s_cond_f ?_) | refine v_skip ?_ | refine v_ret ?_) | (with_reducible first | refine n_then ?_ | refine r_then ?_ | refine e_then ?_) | ((with_reducible first | refine s_g_c ?_ ?_ | refine s_cond_c ?_ ?_) <;> intro hb <;> rw [hb] <;> (try simp only [decide_eq_true_eq, decide_eq_false_iff_not, beq_iff_eq, bne_iff_ne, beq_eq_false_iff_ne, bne_eq_false_iff_eq, ne_eq, Int.not_lt, Int.not_le, gt_iff_lt, ge_iff_le, Bool.not_eq_true', Bool.not_eq_false'] at hb)) | ((with_reducible first | refine s_ret ?_ | refine s_normal ?_); try simp only [x_tup0, x_tup1, x_tup2, x_tup3, x_tup4, x_tup5, and_true, true_and])))
  refine o_callc (by with_unfolding_all rfl) (nBitsE (hw.le k2) hd) ?_
  rw [e0, en]
  rintro _ G3 ⟨h3, rfl⟩
  have k3 := GH.le_trans k2 h3
  have hb3 : By G3 b (bytesOf n) := hbb.le (GH.le_trans h2 h3)
  have hw3 := hw.le k3
  have nvx : NV G3 x n := (NV.own hx).le h3
  have nvw : NV G3 w n := ⟨xs, hw3, hd, hn⟩
  have hlb := len_bits n
  rw [← bytes_len] at hlb
  have hhd := strip_head (strip_bytes n)
  have htop := bit_top (n := n)
  have hbr : ∀ k : Nat, bitR xs (k : Int) = n / 2 ^ k % 2 := fun k => by unfold bitR; rw [if_neg (by omega), Int.toNat_natCast, hn]
  (repeat' (first | (with_reducible refine i_ops ?_; first | (refine g_mv ?_; refine s_mv ?_) | refine o_nil ?_ | (refine g_some ?_; first | refine s_g_t ?_ | refine s_g_f ?_ | refine s_g_f' ?_ | refine s_g_u ?_) | (refine g_pick ?_; first | refine s_pick_t ?_ | refine s_pick_f ?_) | (refine g_len ?_; first | refine s_lenN ?_ | refine s_lenB ?_ | refine s_pure ?_) | (refine g_idx ?_; first | (refine s_idxN ?_; intro p hp; try simp only [Int.toNat_natCast] at hp) | (refine s_idxOB ?_; intro p hp hpw) | (refine s_idxB ?_; intro p hp)) | (refine g_pure ?_; first | refine s_wshr ?_ | refine s_wremc ?_ | refine s_nsub ?_ | refine s_nsubc ?_ | refine s_naddc ?_ | refine s_nquoc ?_ | refine s_nremc ?_ | refine s_wconv ?_ | refine s_pure ?_ | refine s_saddB ?_) | (refine g_hload ?_; refine s_hloadP ?_)) | (with_reducible refine i_vc ?_; first | refine v_seq ?_ | refine v_ops ?_ | (refine g_cond ?_; first | refine s_cond_t ?_ | refine s_cond_f ?_) | refine v_skip ?_ | refine v_ret ?_) | (with_reducible first | refine n_then ?_ | refine r_then ?_ | refine e_then ?_) | ((with_reducible first | refine s_g_c ?_ ?_ | refine s_cond_c ?_ ?_) <;> intro hb <;> rw [hb] <;> (try simp only [decide_eq_true_eq, decide_eq_false_iff_not, beq_iff_eq, bne_iff_ne, beq_eq_false_iff_ne, bne_eq_false_iff_eq, ne_eq, Int.not_lt, Int.not_le, gt_iff_lt, ge_iff_le, Bool.not_eq_true', Bool.not_eq_false'] at hb)) | ((with_reducible first | refine s_ret ?_ | refine s_normal ?_); try simp only [x_tup0, x_tup1, x_tup2, x_tup3, x_tup4, x_tup5, and_true, true_and])))
  refine o_callc (by with_unfolding_all rfl) (alikeT nvx nvw hs rfl) ?_
  rintro _ G4 ⟨rfl, h4⟩
  have hb4 : By G4 b (bytesOf n) := Sl.le hb3 h4
  have hl4 := By.len_le hb4
  have hhd' := fun h : (bytesOf n).length ≠ 0 => hhd.resolve_left h
  (repeat' (first | (with_reducible refine i_ops ?_; first | (refine g_mv ?_; refine s_mv ?_) | refine o_nil ?_ | (refine g_some ?_; first | refine s_g_t ?_ | refine s_g_f ?_ | refine s_g_f' ?_ | refine s_g_u ?_) | (refine g_pick ?_; first | refine s_pick_t ?_ | refine s_pick_f ?_) | (refine g_len ?_; first | refine s_lenN ?_ | refine s_lenB ?_ | refine s_pure ?_) | (refine g_idx ?_; first | (refine s_idxN ?_; intro p hp; try simp only [Int.toNat_natCast] at hp) | (refine s_idxOB ?_; intro p hp hpw) | (refine s_idxB ?_; intro p hp)) | (refine g_pure ?_; first | refine s_wshr ?_ | refine s_wremc ?_ | refine s_nsub ?_ | refine s_nsubc ?_ | refine s_naddc ?_ | refine s_nquoc ?_ | refine s_nremc ?_ | refine s_wconv ?_ | refine s_pure ?_ | refine s_saddB ?_) | (refine g_hload ?_; refine s_hloadP ?_)) | (with_reducible refine i_vc ?_; first | refine v_seq ?_ | refine v_ops ?_ | (refine g_cond ?_; first | refine s_cond_t ?_ | refine s_cond_f ?_) | refine v_skip ?_ | refine v_ret ?_) | (with_reducible first | refine n_then ?_ | refine r_then ?_ | refine e_then ?_) | ((with_reducible first | refine s_g_c ?_ ?_ | refine s_cond_c ?_ ?_) <;> intro hb <;> rw [hb] <;> (try simp only [decide_eq_true_eq, decide_eq_false_iff_not, beq_iff_eq, bne_iff_ne, beq_eq_false_iff_ne, bne_eq_false_iff_eq, ne_eq, Int.not_lt, Int.not_le, gt_iff_lt, ge_iff_le, Bool.not_eq_true', Bool.not_eq_false'] at hb)) | ((with_reducible first | refine s_ret ?_ | refine s_normal ?_); try simp only [x_tup0, x_tup1, x_tup2, x_tup3, x_tup4, x_tup5, and_true, true_and])))
  · exact absurd (by omega) hb
  · have := hhd' (by omega); exact absurd hb (by omega)
  all_goals
    refine o_callc (by with_unfolding_all rfl) (works06 G4) ?_
    rintro _ G5 ⟨rfl, h5⟩
    have hb5 : By G5 b (bytesOf n) := Sl.le hb4 h5
    have hw5 := hw3.le (GH.le_trans h4 h5)
    have k5 := GH.le_trans k3 (GH.le_trans h4 h5)
    obtain ⟨k, hk, hke⟩ : ∃ k : Nat, k < 4096 ∧ (IntKind.u64.wrap i).tmod 4096 = k := by
      rw [wrap_u64, Int.tmod_eq_emod_of_nonneg (by omega)]
      exact ⟨(i % 18446744073709551616 % 4096).toNat, by omega, by omega⟩
    have hB1 := nBitI w xs k G5 hw5 hd (by omega)
    rw [hbr] at hB1
    have hB2 := nBitI w xs (((dg 2 n).length - 1 : Nat) : Int) G5 hw5 hd (by omega)
    rw [hbr] at hB2
    have c1 := ((bytesOf n).getD (((((bytesOf n).length - 1 : Nat) : Int) - (IntKind.u64.wrap i).tmod 4096 / 8)).toNat 0).toNat_lt
    have hk8 : ((k : Int)) % 8 = ((k % 8 : Nat) : Int) := by omega
    (repeat' (first | (with_reducible refine i_ops ?_; first | (refine g_mv ?_; refine s_mv ?_) | refine o_nil ?_ | (refine g_some ?_; first | refine s_g_t ?_ | refine s_g_f ?_ | refine s_g_f' ?_ | refine s_g_u ?_) | (refine g_pick ?_; first | refine s_pick_t ?_ | refine s_pick_f ?_) | (refine g_len ?_; first | refine s_lenN ?_ | refine s_lenB ?_ | refine s_pure ?_) | (refine g_idx ?_; first | (refine s_idxN ?_; intro p hp; try simp only [Int.toNat_natCast] at hp) | (refine s_idxOB ?_; intro p hp hpw) | (refine s_idxB ?_; intro p hp)) | (refine g_pure ?_; first | refine s_wshr ?_ | refine s_wremc ?_ | refine s_nsub ?_ | refine s_nsubc ?_ | refine s_naddc ?_ | refine s_nquoc ?_ | refine s_nremc ?_ | refine s_wconv ?_ | refine s_pure ?_ | refine s_saddB ?_) | (refine g_hload ?_; refine s_hloadP ?_)) | (with_reducible refine i_vc ?_; first | refine v_seq ?_ | refine v_ops ?_ | (refine g_cond ?_; first | refine s_cond_t ?_ | refine s_cond_f ?_) | refine v_skip ?_ | refine v_ret ?_) | (with_reducible first | refine n_then ?_ | refine r_then ?_ | refine e_then ?_) | ((with_reducible first | refine s_g_c ?_ ?_ | refine s_cond_c ?_ ?_) <;> intro hb <;> rw [hb] <;> (try simp only [decide_eq_true_eq, decide_eq_false_iff_not, beq_iff_eq, bne_iff_ne, beq_eq_false_iff_ne, bne_eq_false_iff_eq, ne_eq, Int.not_lt, Int.not_le, gt_iff_lt, ge_iff_le, Bool.not_eq_true', Bool.not_eq_false'] at hb)) | ((with_reducible first | refine s_ret ?_ | refine s_normal ?_); try simp only [x_tup0, x_tup1, x_tup2, x_tup3, x_tup4, x_tup5, and_true, true_and])))
    all_goals simp only [hke] at hb ⊢
  · have hi1 : (((bytesOf n).length - 1 : Nat) : Int) - (k : Int) / 8 = (((bytesOf n).length - 1 - k / 8 : Nat) : Int) := by omega
    have hby := nb_at (bs := bytesOf n) (i := (bytesOf n).length - 1 - k / 8) (by omega)
    rw [nb_len, nb_bytes, show (bytesOf n).length - 1 - ((bytesOf n).length - 1 - k / 8) = k / 8 by omega] at hby
    have hbt := bit_byte n k
    rw [← hby] at hbt
    have hlt := ((bytesOf n).getD ((bytesOf n).length - 1 - k / 8) 0).toNat_lt
    simp only [hi1, Int.toNat_natCast, hk8]
    rw [← hbt] at hB1
    (repeat' (first | (with_reducible refine i_ops ?_; first | (refine g_mv ?_; refine s_mv ?_) | refine o_nil ?_ | (refine g_some ?_; first | refine s_g_t ?_ | refine s_g_f ?_ | refine s_g_f' ?_ | refine s_g_u ?_) | (refine g_pick ?_; first | refine s_pick_t ?_ | refine s_pick_f ?_) | (refine g_len ?_; first | refine s_lenN ?_ | refine s_lenB ?_ | refine s_pure ?_) | (refine g_idx ?_; first | (refine s_idxN ?_; intro p hp; try simp only [Int.toNat_natCast] at hp) | (refine s_idxOB ?_; intro p hp hpw) | (refine s_idxB ?_; intro p hp)) | (refine g_pure ?_; first | refine s_wshr ?_ | refine s_wremc ?_ | refine s_nsub ?_ | refine s_nsubc ?_ | refine s_naddc ?_ | refine s_nquoc ?_ | refine s_nremc ?_ | refine s_wconv ?_ | refine s_pure ?_ | refine s_saddB ?_) | (refine g_hload ?_; refine s_hloadP ?_) | refine o_callp (by with_unfolding_all rfl) (by first | exact hB1 | exact hB2) ?_ | (refine o_callg (by with_unfolding_all rfl) (by first | exact hB1 | exact hB2) ?_; intro G' hle)) | (with_reducible refine i_vc ?_; first | refine v_seq ?_ | refine v_ops ?_ | (refine g_cond ?_; first | refine s_cond_t ?_ | refine s_cond_f ?_) | refine v_skip ?_ | refine v_ret ?_) | (with_reducible first | refine n_then ?_ | refine r_then ?_ | refine e_then ?_) | ((with_reducible first | refine s_g_c ?_ ?_ | refine s_cond_c ?_ ?_) <;> intro hb <;> rw [hb] <;> (try simp only [decide_eq_true_eq, decide_eq_false_iff_not, beq_iff_eq, bne_iff_ne, beq_eq_false_iff_ne, bne_eq_false_iff_eq, ne_eq, Int.not_lt, Int.not_le, gt_iff_lt, ge_iff_le, Bool.not_eq_true', Bool.not_eq_false'] at hb)) | ((with_reducible first | refine s_ret ?_ | refine s_normal ?_); try simp only [x_tup0, x_tup1, x_tup2, x_tup3, x_tup4, x_tup5, and_true, true_and])))
    · exact k5
    · have := htop (by omega)
      rw [this]; exact ⟨rfl, k5⟩
  · have hz : n / 2 ^ k % 2 = 0 := by
      have h1 := dg256_len (n := n) (k := k / 8)
      rw [← bytes_len] at h1
      have h2 := h1.1 (by omega)
      have h3 : (256 : Nat) ^ (k / 8) ≤ 2 ^ k := by
        rw [show (256 : Nat) = 2 ^ 8 by decide, ← Nat.pow_mul]
        exact Nat.pow_le_pow_right (by decide) (by omega)
      rw [Nat.div_eq_of_lt (by omega)]
    rw [hz] at hB1
    (repeat' (first | (with_reducible refine i_ops ?_; first | (refine g_mv ?_; refine s_mv ?_) | refine o_nil ?_ | (refine g_some ?_; first | refine s_g_t ?_ | refine s_g_f ?_ | refine s_g_f' ?_ | refine s_g_u ?_) | (refine g_pick ?_; first | refine s_pick_t ?_ | refine s_pick_f ?_) | (refine g_len ?_; first | refine s_lenN ?_ | refine s_lenB ?_ | refine s_pure ?_) | (refine g_idx ?_; first | (refine s_idxN ?_; intro p hp; try simp only [Int.toNat_natCast] at hp) | (refine s_idxOB ?_; intro p hp hpw) | (refine s_idxB ?_; intro p hp)) | (refine g_pure ?_; first | refine s_wshr ?_ | refine s_wremc ?_ | refine s_nsub ?_ | refine s_nsubc ?_ | refine s_naddc ?_ | refine s_nquoc ?_ | refine s_nremc ?_ | refine s_wconv ?_ | refine s_pure ?_ | refine s_saddB ?_) | (refine g_hload ?_; refine s_hloadP ?_) | refine o_callp (by with_unfolding_all rfl) (by first | exact hB1 | exact hB2) ?_ | (refine o_callg (by with_unfolding_all rfl) (by first | exact hB1 | exact hB2) ?_; intro G' hle)) | (with_reducible refine i_vc ?_; first | refine v_seq ?_ | refine v_ops ?_ | (refine g_cond ?_; first | refine s_cond_t ?_ | refine s_cond_f ?_) | refine v_skip ?_ | refine v_ret ?_) | (with_reducible first | refine n_then ?_ | refine r_then ?_ | refine e_then ?_) | ((with_reducible first | refine s_g_c ?_ ?_ | refine s_cond_c ?_ ?_) <;> intro hb <;> rw [hb] <;> (try simp only [decide_eq_true_eq, decide_eq_false_iff_not, beq_iff_eq, bne_iff_ne, beq_eq_false_iff_ne, bne_eq_false_iff_eq, ne_eq, Int.not_lt, Int.not_le, gt_iff_lt, ge_iff_le, Bool.not_eq_true', Bool.not_eq_false'] at hb)) | ((with_reducible first | refine s_ret ?_ | refine s_normal ?_); try simp only [x_tup0, x_tup1, x_tup2, x_tup3, x_tup4, x_tup5, and_true, true_and])))
    · exact k5
    · have := htop (by omega)
      rw [this]; exact ⟨rfl, k5⟩
  · exfalso; omega
  · have hz : n / 2 ^ k % 2 = 0 := by
      have h1 := dg256_len (n := n) (k := k / 8)
      rw [← bytes_len] at h1
      have h2 := h1.1 (by omega)
      have h3 : (256 : Nat) ^ (k / 8) ≤ 2 ^ k := by
        rw [show (256 : Nat) = 2 ^ 8 by decide, ← Nat.pow_mul]
        exact Nat.pow_le_pow_right (by decide) (by omega)
      rw [Nat.div_eq_of_lt (by omega)]
    rw [hz] at hB1
    (repeat' (first | (with_reducible refine i_ops ?_; first | (refine g_mv ?_; refine s_mv ?_) | refine o_nil ?_ | (refine g_some ?_; first | refine s_g_t ?_ | refine s_g_f ?_ | refine s_g_f' ?_ | refine s_g_u ?_) | (refine g_pick ?_; first | refine s_pick_t ?_ | refine s_pick_f ?_) | (refine g_len ?_; first | refine s_lenN ?_ | refine s_lenB ?_ | refine s_pure ?_) | (refine g_idx ?_; first | (refine s_idxN ?_; intro p hp; try simp only [Int.toNat_natCast] at hp) | (refine s_idxOB ?_; intro p hp hpw) | (refine s_idxB ?_; intro p hp)) | (refine g_pure ?_; first | refine s_wshr ?_ | refine s_wremc ?_ | refine s_nsub ?_ | refine s_nsubc ?_ | refine s_naddc ?_ | refine s_nquoc ?_ | refine s_nremc ?_ | refine s_wconv ?_ | refine s_pure ?_ | refine s_saddB ?_) | (refine g_hload ?_; refine s_hloadP ?_) | refine o_callp (by with_unfolding_all rfl) (by first | exact hB1 | exact hB2) ?_ | (refine o_callg (by with_unfolding_all rfl) (by first | exact hB1 | exact hB2) ?_; intro G' hle)) | (with_reducible refine i_vc ?_; first | refine v_seq ?_ | refine v_ops ?_ | (refine g_cond ?_; first | refine s_cond_t ?_ | refine s_cond_f ?_) | refine v_skip ?_ | refine v_ret ?_) | (with_reducible first | refine n_then ?_ | refine r_then ?_ | refine e_then ?_) | ((with_reducible first | refine s_g_c ?_ ?_ | refine s_cond_c ?_ ?_) <;> intro hb <;> rw [hb] <;> (try simp only [decide_eq_true_eq, decide_eq_false_iff_not, beq_iff_eq, bne_iff_ne, beq_eq_false_iff_ne, bne_eq_false_iff_eq, ne_eq, Int.not_lt, Int.not_le, gt_iff_lt, ge_iff_le, Bool.not_eq_true', Bool.not_eq_false'] at hb)) | ((with_reducible first | refine s_ret ?_ | refine s_normal ?_); try simp only [x_tup0, x_tup1, x_tup2, x_tup3, x_tup4, x_tup5, and_true, true_and])))
    · exact k5
    · have := htop (by omega)
      rw [this]; exact ⟨rfl, k5⟩
theorem natBack_walk {H : Type} {enc : TypeId × Value → H} {W : World} {base : Nat} {v0 v1 : Value} {d0 d1 : DataW H} {p0 p1 : List MemPlace}
    (hv0 : Value.okWide Tryd.prog W .any base 24 v0) (h0 : DataW.Trod enc Tryd.prog W 0 (fun _ => true) true 24 v0 d0 p0)
    (hv1 : Value.okWide Tryd.prog W .any base 3 v1) (h1 : DataW.Trod enc Tryd.prog W 0 (fun _ => true) true 3 v1 d1 p1)
    (hsz : (DataW.weightsEach Tryd.prog [24, 3] [d0, d1]).all (· ≤ reachBytes) = true) :
    HC Tryd.prog 4 #[v0, v1] (whole W) fun v G' => v = .bool true ∧ (whole W).le G' := by
  obtain ⟨a, ha, da, _⟩ := top_words 0 Tryd.underlying24 Tryd.underlying48 (by kernel_rfl) (by kernel_rfl) hv0 h0 hsz rfl rfl
  obtain ⟨n, rfl, hwf⟩ := top_int Tryd.underlying3 hv1 h1
  exact lawBack v0 a n _ ha da (wf_i64d hwf)
end Go.Proofs.YtfacphjjkanajaaDoor.V
