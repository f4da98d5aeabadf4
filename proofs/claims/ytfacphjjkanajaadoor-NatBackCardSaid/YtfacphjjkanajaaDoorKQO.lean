/- How many bits; a bit. -/
import Derived.Test.YtfacphjjkanajaaDoorKNK
import Derived.Test.YtfacphjjkanajaaDoorKQK
import Derived.Test.YtfacphjjkanajaaDoorKNX
import Derived.Test.YtfacphjjkanajaaDoorKCX
import Derived.Test.YtfacphjjkanajaaDoorKNV
import Derived.Test.YtfacphjjkanajaaDoorKQF
set_option linter.unusedSimpArgs false
set_option linter.unusedVariables false
-- @nums
-- @extra s_nsub s_nmulc s_wshr s_wandc s_nquoc s_nremc s_nsubc
namespace Go.Proofs.YtfacphjjkanajaaDoor.V
open Go.RowKit Go.ChangeShapes Go.WideShapes
theorem top_bits64 {n : Nat} (h : 0 < (dg 18446744073709551616 n).length) {s : Nat} (hs : s ≤ 63) (h1 : 9223372036854775808 ≤ (dg 18446744073709551616 n).getD ((dg 18446744073709551616 n).length - 1) 0 * 2 ^ s) (h2 : (dg 18446744073709551616 n).getD ((dg 18446744073709551616 n).length - 1) 0 * 2 ^ s < 18446744073709551616) : (dg 2 n).length = 64 * (dg 18446744073709551616 n).length - s := by
  have e1 := val_take_succ 18446744073709551616 (dg 18446744073709551616 n) ((dg 18446744073709551616 n).length - 1)
  rw [Nat.sub_add_cancel h, List.take_of_length_le (Nat.le_refl _), val_dg (by decide)] at e1
  have e2 := val_lt ((dg_lt (B := 18446744073709551616) (by decide) n).take ((dg 18446744073709551616 n).length - 1))
  rw [List.length_take, Nat.min_eq_left (by omega)] at e2
  generalize (dg 18446744073709551616 n).getD ((dg 18446744073709551616 n).length - 1) 0 = t at *
  obtain ⟨m, hm⟩ : ∃ m, (dg 18446744073709551616 n).length = m + 1 := ⟨(dg 18446744073709551616 n).length - 1, by omega⟩
  rw [hm, Nat.add_sub_cancel] at e1 e2
  generalize val 18446744073709551616 ((dg 18446744073709551616 n).take m) = r at *
  have eP : (18446744073709551616 : Nat) ^ m = 2 ^ (64 * m) := by rw [Nat.pow_mul]
  rw [eP] at e1 e2
  have e3 : (2 : Nat) ^ (64 - s) * 2 ^ s = 18446744073709551616 := by rw [← Nat.pow_add, Nat.sub_add_cancel (by omega)]
  have e4 : (2 : Nat) ^ (63 - s) * 2 ^ s = 9223372036854775808 := by rw [← Nat.pow_add, Nat.sub_add_cancel (by omega)]
  have t1 : t < 2 ^ (64 - s) := by rw [← e3] at h2; exact Nat.lt_of_mul_lt_mul_right h2
  have t2 : 2 ^ (63 - s) ≤ t := by rw [← e4] at h1; exact Nat.le_of_mul_le_mul_right h1 (Nat.two_pow_pos s)
  rw [hm]
  apply Nat.le_antisymm
  · rw [show 64 * (m + 1) - s = 64 * m + (64 - s) by omega, dg2_len, Nat.pow_add]
    have := Nat.mul_le_mul_left (2 ^ (64 * m)) (show t + 1 ≤ 2 ^ (64 - s) by omega)
    rw [Nat.mul_add, Nat.mul_one] at this
    omega
  · have : ¬ (dg 2 n).length ≤ 64 * m + (63 - s) := by
      rw [dg2_len, Nat.pow_add]
      have := Nat.mul_le_mul_left (2 ^ (64 * m)) t2
      omega
    omega
theorem may1 (w ua : Value) (b1 : Nat) (al : List Nat) (e : TypeId) (G0 G : GH) (h0 : G0.le G) (hw : Own 1 G0 G w [pt b1]) (hwb : blkS w ≠ some b1) (n1 : G0 b1 = none)
    (c1 : G b1 = some (bx ua e)) (ha : Nu .u64 G0 ua al) (da : Dl 18446744073709551616 al) :
    HC Tryd.prog 25 #[w] G fun v G' => G0.le G' ∧ ((v = .bool false ∧ ¬ ln al ≤ 64) ∨ (v = .bool true ∧ ln al ≤ 64 ∧ G' b1 = some (bx (trimS ua (ln al)) e))) := by
  refine (may w [b1] [ua] [al] e G0 G h0 rfl rfl hw.sl ?_ ?_ (by simp)).mono ?_
  · intro b hb
    simp at hb
    rw [hb]; exact hwb
  · intro j hj
    simp at hj
    subst hj
    exact ⟨n1, c1, ha, da⟩
  · rintro v G' ⟨h1, ⟨rfl, x, hx, h2⟩ | ⟨rfl, h2, h3⟩⟩
    · simp at hx
      subst hx
      exact ⟨h1, .inl ⟨rfl, by omega⟩⟩
    · exact ⟨h1, .inr ⟨rfl, h2 al (by simp), h3 0 (by simp)⟩⟩
def BitsR (G : GH) (xs : List Nat) (v : Value) (G' : GH) : Prop := G.le G' ∧ ((¬ ln xs ≤ 64 ∧ v = .tuple #[.int .i64 0, .int .i64 3]) ∨ (ln xs ≤ 64 ∧ v = .tuple #[iv .i64 (dg 2 (val 18446744073709551616 xs)).length, .int .i64 0]))
theorem top_ne {n : Nat} (h : 0 < (dg 18446744073709551616 n).length) : (dg 18446744073709551616 n).getD ((dg 18446744073709551616 n).length - 1) 0 ≠ 0 := by
  intro h0
  have e1 := val_take_succ 18446744073709551616 (dg 18446744073709551616 n) ((dg 18446744073709551616 n).length - 1)
  rw [Nat.sub_add_cancel h, List.take_of_length_le (Nat.le_refl _), val_dg (by decide), h0, Nat.mul_zero, Nat.add_zero] at e1
  have e2 := val_lt ((dg_lt (B := 18446744073709551616) (by decide) n).take ((dg 18446744073709551616 n).length - 1))
  rw [List.length_take, Nat.min_eq_left (by omega), ← e1] at e2
  have := dg_len_le (B := 18446744073709551616) (by decide) e2
  omega
theorem nBits (u : Value) (xs : List Nat) (G : GH) (h : Nu .u64 G u xs) (hd : Dl 18446744073709551616 xs) : HC Tryd.prog 11 #[u] G fun v G' => BitsR G xs v G' := by
  obtain ⟨ax, nx, cx, rfl⟩ := Sl.shape h
  refine HC.start comp11 rfl ?_; unfold pc11
  refine v_seq ?_
  refine v_ops ?_
  refine o_hbox (z := #[.slice ax nx cx]) (by with_unfolding_all rfl) rfl ?_
  intro b1 hb1
  obtain ⟨e, c1⟩ : ∃ e, (G.put b1 (.cells #[.slice ax nx cx] 24)) b1 = some (bx (.slice ax nx cx) e) := ⟨_, GH.put_same _ _ _⟩
  have hle2 : G.le (G.put b1 (.cells #[.slice ax nx cx] 24)) := GH.le_put _ hb1
  generalize G.put b1 _ = G2 at *
  (repeat' (first | (with_reducible refine i_ops ?_; first | (refine g_mv ?_; refine s_mv ?_) | refine o_nil ?_ | (refine g_some ?_; first | refine s_g_t ?_ | refine s_g_f ?_ | refine s_g_f' ?_ | refine s_g_u ?_) | (refine g_pick ?_; first | refine s_pick_t ?_ | refine s_pick_f ?_) | (refine g_len ?_; first | refine s_lenN ?_ | refine s_lenB ?_ | refine s_pure ?_) | (refine g_idx ?_; first | (refine s_idxN ?_; intro p hp; try simp only [Int.toNat_natCast] at hp) | (refine s_idxOB ?_; intro p hp hpw) | (refine s_idxB ?_; intro p hp)) | (refine g_pure ?_; first | refine s_nsub ?_ | refine s_nmulc ?_ | refine s_wshr ?_ | refine s_wandc ?_ | refine s_nquoc ?_ | refine s_nremc ?_ | refine s_nsubc ?_ | refine s_pure ?_ | refine s_saddB ?_) | (refine g_hload ?_; refine s_hloadP ?_)) | (with_reducible refine i_vc ?_; first | refine v_seq ?_ | refine v_ops ?_ | (refine g_cond ?_; first | refine s_cond_t ?_ | refine s_cond_f ?_) | refine v_block ?_ | refine v_skip ?_ | refine v_exit ?_ | refine v_ret ?_ | refine s_drawl ?_ | refine v_draw0 ?_) | (with_reducible refine i_plan ?_; first | refine p_done ?_ | refine s_pre ?_ | refine s_preN ?_ | refine s_ag_t ?_ | refine s_ag_f ?_ | refine s_alt ?_ | refine p_alt ?_ ?_) | (with_reducible first | refine n_then ?_ | refine r_then ?_ | refine e_then ?_ | refine n_block ?_ | refine r_block ?_ | refine e_block_eq (by with_unfolding_all rfl) ?_ | refine e_block_ne (by with_unfolding_all rfl) ?_ | (refine g_stand ?_; first | refine s_stand ?_ | refine s_standL ?_)) | ((with_reducible first | refine s_g_c ?_ ?_ | refine s_cond_c ?_ ?_ | refine s_tg_c ?_ ?_ | refine s_ag_c ?_ ?_) <;> intro hb <;> rw [hb] <;> (try simp only [decide_eq_true_eq, decide_eq_false_iff_not, beq_iff_eq, bne_iff_ne, beq_eq_false_iff_ne, bne_eq_false_iff_eq, ne_eq, Int.not_lt, Int.not_le, gt_iff_lt, ge_iff_le, Bool.not_eq_true', Bool.not_eq_false'] at hb)) | ((with_reducible first | refine s_ret ?_ | refine s_normal ?_); try simp only [x_tup0, x_tup1, x_tup2, x_tup3, x_tup4, x_tup5, and_true, true_and])))
  refine o_bsliceO (by with_unfolding_all rfl) rfl rfl rfl rfl rfl ?_
  intro w G3 hle3 ho3 hw3
  (repeat' (first | (with_reducible refine i_ops ?_; first | (refine g_mv ?_; refine s_mv ?_) | refine o_nil ?_ | (refine g_some ?_; first | refine s_g_t ?_ | refine s_g_f ?_ | refine s_g_f' ?_ | refine s_g_u ?_) | (refine g_pick ?_; first | refine s_pick_t ?_ | refine s_pick_f ?_) | (refine g_len ?_; first | refine s_lenN ?_ | refine s_lenB ?_ | refine s_pure ?_) | (refine g_idx ?_; first | (refine s_idxN ?_; intro p hp; try simp only [Int.toNat_natCast] at hp) | (refine s_idxOB ?_; intro p hp hpw) | (refine s_idxB ?_; intro p hp)) | (refine g_pure ?_; first | refine s_nsub ?_ | refine s_nmulc ?_ | refine s_wshr ?_ | refine s_wandc ?_ | refine s_nquoc ?_ | refine s_nremc ?_ | refine s_nsubc ?_ | refine s_pure ?_ | refine s_saddB ?_) | (refine g_hload ?_; refine s_hloadP ?_)) | (with_reducible refine i_vc ?_; first | refine v_seq ?_ | refine v_ops ?_ | (refine g_cond ?_; first | refine s_cond_t ?_ | refine s_cond_f ?_) | refine v_block ?_ | refine v_skip ?_ | refine v_exit ?_ | refine v_ret ?_ | refine s_drawl ?_ | refine v_draw0 ?_) | (with_reducible refine i_plan ?_; first | refine p_done ?_ | refine s_pre ?_ | refine s_preN ?_ | refine s_ag_t ?_ | refine s_ag_f ?_ | refine s_alt ?_ | refine p_alt ?_ ?_) | (with_reducible first | refine n_then ?_ | refine r_then ?_ | refine e_then ?_ | refine n_block ?_ | refine r_block ?_ | refine e_block_eq (by with_unfolding_all rfl) ?_ | refine e_block_ne (by with_unfolding_all rfl) ?_ | (refine g_stand ?_; first | refine s_stand ?_ | refine s_standL ?_)) | ((with_reducible first | refine s_g_c ?_ ?_ | refine s_cond_c ?_ ?_ | refine s_tg_c ?_ ?_ | refine s_ag_c ?_ ?_) <;> intro hb <;> rw [hb] <;> (try simp only [decide_eq_true_eq, decide_eq_false_iff_not, beq_iff_eq, bne_iff_ne, beq_eq_false_iff_ne, bne_eq_false_iff_eq, ne_eq, Int.not_lt, Int.not_le, gt_iff_lt, ge_iff_le, Bool.not_eq_true', Bool.not_eq_false'] at hb)) | ((with_reducible first | refine s_ret ?_ | refine s_normal ?_); try simp only [x_tup0, x_tup1, x_tup2, x_tup3, x_tup4, x_tup5, and_true, true_and])))
  refine o_callc (by with_unfolding_all rfl) (may1 w _ b1 xs _ G G3 (GH.le_trans hle2 hle3) (ho3.base hle2) (ho3.blk_ne c1) hb1 (hle3 _ _ c1) h hd) ?_
  rintro v G4 ⟨hle4, ⟨rfl, hno⟩ | ⟨rfl, hok, d1⟩⟩
  · (repeat' (first | (with_reducible refine i_ops ?_; first | (refine g_mv ?_; refine s_mv ?_) | refine o_nil ?_ | (refine g_some ?_; first | refine s_g_t ?_ | refine s_g_f ?_ | refine s_g_f' ?_ | refine s_g_u ?_) | (refine g_pick ?_; first | refine s_pick_t ?_ | refine s_pick_f ?_) | (refine g_len ?_; first | refine s_lenN ?_ | refine s_lenB ?_ | refine s_pure ?_) | (refine g_idx ?_; first | (refine s_idxN ?_; intro p hp; try simp only [Int.toNat_natCast] at hp) | (refine s_idxOB ?_; intro p hp hpw) | (refine s_idxB ?_; intro p hp)) | (refine g_pure ?_; first | refine s_nsub ?_ | refine s_nmulc ?_ | refine s_wshr ?_ | refine s_wandc ?_ | refine s_nquoc ?_ | refine s_nremc ?_ | refine s_nsubc ?_ | refine s_pure ?_ | refine s_saddB ?_) | (refine g_hload ?_; refine s_hloadP ?_)) | (with_reducible refine i_vc ?_; first | refine v_seq ?_ | refine v_ops ?_ | (refine g_cond ?_; first | refine s_cond_t ?_ | refine s_cond_f ?_) | refine v_block ?_ | refine v_skip ?_ | refine v_exit ?_ | refine v_ret ?_ | refine s_drawl ?_ | refine v_draw0 ?_) | (with_reducible refine i_plan ?_; first | refine p_done ?_ | refine s_pre ?_ | refine s_preN ?_ | refine s_ag_t ?_ | refine s_ag_f ?_ | refine s_alt ?_ | refine p_alt ?_ ?_) | (with_reducible first | refine n_then ?_ | refine r_then ?_ | refine e_then ?_ | refine n_block ?_ | refine r_block ?_ | refine e_block_eq (by with_unfolding_all rfl) ?_ | refine e_block_ne (by with_unfolding_all rfl) ?_ | (refine g_stand ?_; first | refine s_stand ?_ | refine s_standL ?_)) | ((with_reducible first | refine s_g_c ?_ ?_ | refine s_cond_c ?_ ?_ | refine s_tg_c ?_ ?_ | refine s_ag_c ?_ ?_) <;> intro hb <;> rw [hb] <;> (try simp only [decide_eq_true_eq, decide_eq_false_iff_not, beq_iff_eq, bne_iff_ne, beq_eq_false_iff_ne, bne_eq_false_iff_eq, ne_eq, Int.not_lt, Int.not_le, gt_iff_lt, ge_iff_le, Bool.not_eq_true', Bool.not_eq_false'] at hb)) | ((with_reducible first | refine s_ret ?_ | refine s_normal ?_); try simp only [x_tup0, x_tup1, x_tup2, x_tup3, x_tup4, x_tup5, and_true, true_and])))
    exact ⟨hle4, .inl ⟨hno, rfl⟩⟩
  have P1 := bx_ptr d1
  have U1 := (trim_nu h hd).le hle4
  generalize trimS (.slice ax nx cx) (ln xs) = u at *
  have hk := hok
  unfold ln at hk
  obtain ⟨n, hn⟩ : ∃ n, n = val 18446744073709551616 xs := ⟨_, rfl⟩
  rw [← hn] at hk U1
  have hul := Nu.len_le U1
  have h0 : (dg 18446744073709551616 n).length = 0 → n = 0 := fun h => (dg_ne (B := 18446744073709551616) (by decide)).1 (List.eq_nil_of_length_eq_zero h)
  have hg := (dg_lt (B := 18446744073709551616) (by decide) n).getD (by decide) ((dg 18446744073709551616 n).length - 1)
  (repeat' (first | (with_reducible refine i_ops ?_; first | (refine g_mv ?_; refine s_mv ?_) | refine o_nil ?_ | (refine g_some ?_; first | refine s_g_t ?_ | refine s_g_f ?_ | refine s_g_f' ?_ | refine s_g_u ?_) | (refine g_pick ?_; first | refine s_pick_t ?_ | refine s_pick_f ?_) | (refine g_len ?_; first | refine s_lenN ?_ | refine s_lenB ?_ | refine s_pure ?_) | (refine g_idx ?_; first | (refine s_idxN ?_; intro p hp; try simp only [Int.toNat_natCast] at hp) | (refine s_idxOB ?_; intro p hp hpw) | (refine s_idxB ?_; intro p hp)) | (refine g_pure ?_; first | refine s_nsub ?_ | refine s_nmulc ?_ | refine s_wshr ?_ | refine s_wandc ?_ | refine s_nquoc ?_ | refine s_nremc ?_ | refine s_nsubc ?_ | refine s_pure ?_ | refine s_saddB ?_) | (refine g_hload ?_; refine s_hloadP ?_)) | (with_reducible refine i_vc ?_; first | refine v_seq ?_ | refine v_ops ?_ | (refine g_cond ?_; first | refine s_cond_t ?_ | refine s_cond_f ?_) | refine v_block ?_ | refine v_skip ?_ | refine v_exit ?_ | refine v_ret ?_ | refine s_drawl ?_ | refine v_draw0 ?_) | (with_reducible refine i_plan ?_; first | refine p_done ?_ | refine s_pre ?_ | refine s_preN ?_ | refine s_ag_t ?_ | refine s_ag_f ?_ | refine s_alt ?_ | refine p_alt ?_ ?_) | (with_reducible first | refine n_then ?_ | refine r_then ?_ | refine e_then ?_ | refine n_block ?_ | refine r_block ?_ | refine e_block_eq (by with_unfolding_all rfl) ?_ | refine e_block_ne (by with_unfolding_all rfl) ?_ | (refine g_stand ?_; first | refine s_stand ?_ | refine s_standL ?_)) | ((with_reducible first | refine s_g_c ?_ ?_ | refine s_cond_c ?_ ?_ | refine s_tg_c ?_ ?_ | refine s_ag_c ?_ ?_) <;> intro hb <;> rw [hb] <;> (try simp only [decide_eq_true_eq, decide_eq_false_iff_not, beq_iff_eq, bne_iff_ne, beq_eq_false_iff_ne, bne_eq_false_iff_eq, ne_eq, Int.not_lt, Int.not_le, gt_iff_lt, ge_iff_le, Bool.not_eq_true', Bool.not_eq_false'] at hb)) | ((with_reducible first | refine s_ret ?_ | refine s_normal ?_); try simp only [x_tup0, x_tup1, x_tup2, x_tup3, x_tup4, x_tup5, and_true, true_and])))
  · have hz := h0 (by omega)
    exact ⟨hle4, .inr ⟨hok, by rw [← hn, hz, dg_zero]; rfl⟩⟩
  · have hl0 : 0 < (dg 18446744073709551616 n).length := by omega
    refine o_callc (by with_unfolding_all rfl) (LeadingZeros64s _ G4 hg (top_ne hl0)) ?_
    rintro _ _ ⟨rfl, s, rfl, s1, s2, s3⟩
    have hb2 := top_bits64 hl0 s1 s2 s3
    (repeat' (first | (with_reducible refine i_ops ?_; first | (refine g_mv ?_; refine s_mv ?_) | refine o_nil ?_ | (refine g_some ?_; first | refine s_g_t ?_ | refine s_g_f ?_ | refine s_g_f' ?_ | refine s_g_u ?_) | (refine g_pick ?_; first | refine s_pick_t ?_ | refine s_pick_f ?_) | (refine g_len ?_; first | refine s_lenN ?_ | refine s_lenB ?_ | refine s_pure ?_) | (refine g_idx ?_; first | (refine s_idxN ?_; intro p hp; try simp only [Int.toNat_natCast] at hp) | (refine s_idxOB ?_; intro p hp hpw) | (refine s_idxB ?_; intro p hp)) | (refine g_pure ?_; first | refine s_nsub ?_ | refine s_nmulc ?_ | refine s_wshr ?_ | refine s_wandc ?_ | refine s_nquoc ?_ | refine s_nremc ?_ | refine s_nsubc ?_ | refine s_pure ?_ | refine s_saddB ?_) | (refine g_hload ?_; refine s_hloadP ?_)) | (with_reducible refine i_vc ?_; first | refine v_seq ?_ | refine v_ops ?_ | (refine g_cond ?_; first | refine s_cond_t ?_ | refine s_cond_f ?_) | refine v_block ?_ | refine v_skip ?_ | refine v_exit ?_ | refine v_ret ?_ | refine s_drawl ?_ | refine v_draw0 ?_) | (with_reducible refine i_plan ?_; first | refine p_done ?_ | refine s_pre ?_ | refine s_preN ?_ | refine s_ag_t ?_ | refine s_ag_f ?_ | refine s_alt ?_ | refine p_alt ?_ ?_) | (with_reducible first | refine n_then ?_ | refine r_then ?_ | refine e_then ?_ | refine n_block ?_ | refine r_block ?_ | refine e_block_eq (by with_unfolding_all rfl) ?_ | refine e_block_ne (by with_unfolding_all rfl) ?_ | (refine g_stand ?_; first | refine s_stand ?_ | refine s_standL ?_)) | ((with_reducible first | refine s_g_c ?_ ?_ | refine s_cond_c ?_ ?_ | refine s_tg_c ?_ ?_ | refine s_ag_c ?_ ?_) <;> intro hb <;> rw [hb] <;> (try simp only [decide_eq_true_eq, decide_eq_false_iff_not, beq_iff_eq, bne_iff_ne, beq_eq_false_iff_ne, bne_eq_false_iff_eq, ne_eq, Int.not_lt, Int.not_le, gt_iff_lt, ge_iff_le, Bool.not_eq_true', Bool.not_eq_false'] at hb)) | ((with_reducible first | refine s_ret ?_ | refine s_normal ?_); try simp only [x_tup0, x_tup1, x_tup2, x_tup3, x_tup4, x_tup5, and_true, true_and])))
    refine ⟨hle4, .inr ⟨hok, ?_⟩⟩
    rw [← hn, hb2]
    have e : ((64 * (dg 18446744073709551616 n).length - s : Nat) : Int) = 64 * ((dg 18446744073709551616 n).length : Int) - s := by omega
    simp only [iv]
    rw [e]
theorem bit_of {xs : List Nat} (hd : Dl 18446744073709551616 xs) (i : Nat) : val 18446744073709551616 xs / 2 ^ i % 2 = xs.getD (i / 64) 0 / 2 ^ (i % 64) % 2 := by
  have e1 := val_split 18446744073709551616 xs (i / 64)
  have e2 : val 18446744073709551616 (xs.take (i / 64)) < 18446744073709551616 ^ (i / 64) := by
    have h1 := val_lt (hd.take (i / 64))
    have h2 : (xs.take (i / 64)).length ≤ i / 64 := by rw [List.length_take]; omega
    have h3 := Nat.pow_le_pow_right (show 0 < 18446744073709551616 by decide) h2
    omega
  have e3 := val_drop 18446744073709551616 xs (i / 64)
  have eP : (2 : Nat) ^ i = 18446744073709551616 ^ (i / 64) * 2 ^ (i % 64) := by
    have : (18446744073709551616 : Nat) ^ (i / 64) = 2 ^ (64 * (i / 64)) := by rw [Nat.pow_mul]
    rw [this, ← Nat.pow_add, Nat.div_add_mod]
  have e4 : val 18446744073709551616 xs / 18446744073709551616 ^ (i / 64) = val 18446744073709551616 (xs.drop (i / 64)) := by
    rw [e1, Nat.add_mul_div_left _ _ (Nat.pow_pos (by decide)), Nat.div_eq_of_lt e2, Nat.zero_add]
  rw [eP, ← Nat.div_div_eq_div_mul, e4, e3]
  have h64 : (18446744073709551616 : Nat) = 2 ^ (i % 64) * (2 * 2 ^ (63 - i % 64)) := by
    rw [← Nat.pow_succ', ← Nat.pow_add, show i % 64 + (63 - i % 64 + 1) = 64 by omega]
  rw [h64, Nat.mul_assoc, Nat.add_mul_div_left _ _ (Nat.two_pow_pos _), Nat.mul_assoc, Nat.add_mul_mod_self_left]
theorem nBit (u : Value) (xs : List Nat) (i : Nat) (G : GH) (h : Nu .u64 G u xs) (hd : Dl 18446744073709551616 xs) (hi : i < 9223372036854775808) : HC Tryd.prog 14 #[u, iv .i64 i] G fun v G' => v = iv .u64 (val 18446744073709551616 xs / 2 ^ i % 2) ∧ G' = G := by
  rw [bit_of hd i]
  have hg := hd.getD (by decide) (i / 64)
  refine HC.start comp14 rfl ?_; unfold pc14
  (repeat' (first | (with_reducible refine i_ops ?_; first | (refine g_mv ?_; refine s_mv ?_) | refine o_nil ?_ | (refine g_some ?_; first | refine s_g_t ?_ | refine s_g_f ?_ | refine s_g_f' ?_ | refine s_g_u ?_) | (refine g_pick ?_; first | refine s_pick_t ?_ | refine s_pick_f ?_) | (refine g_len ?_; first | refine s_lenN ?_ | refine s_lenB ?_ | refine s_pure ?_) | (refine g_idx ?_; first | (refine s_idxN ?_; intro p hp; try simp only [Int.toNat_natCast] at hp) | (refine s_idxOB ?_; intro p hp hpw) | (refine s_idxB ?_; intro p hp)) | (refine g_pure ?_; first | refine s_nsub ?_ | refine s_nmulc ?_ | refine s_wshr ?_ | refine s_wandc ?_ | refine s_nquoc ?_ | refine s_nremc ?_ | refine s_nsubc ?_ | refine s_pure ?_ | refine s_saddB ?_) | (refine g_hload ?_; refine s_hloadP ?_)) | (with_reducible refine i_vc ?_; first | refine v_seq ?_ | refine v_ops ?_ | (refine g_cond ?_; first | refine s_cond_t ?_ | refine s_cond_f ?_) | refine v_block ?_ | refine v_skip ?_ | refine v_exit ?_ | refine v_ret ?_ | refine s_drawl ?_ | refine v_draw0 ?_) | (with_reducible refine i_plan ?_; first | refine p_done ?_ | refine s_pre ?_ | refine s_preN ?_ | refine s_ag_t ?_ | refine s_ag_f ?_ | refine s_alt ?_ | refine p_alt ?_ ?_) | (with_reducible first | refine n_then ?_ | refine r_then ?_ | refine e_then ?_ | refine n_block ?_ | refine r_block ?_ | refine e_block_eq (by with_unfolding_all rfl) ?_ | refine e_block_ne (by with_unfolding_all rfl) ?_ | (refine g_stand ?_; first | refine s_stand ?_ | refine s_standL ?_)) | ((with_reducible first | refine s_g_c ?_ ?_ | refine s_cond_c ?_ ?_ | refine s_tg_c ?_ ?_ | refine s_ag_c ?_ ?_) <;> intro hb <;> rw [hb] <;> (try simp only [decide_eq_true_eq, decide_eq_false_iff_not, beq_iff_eq, bne_iff_ne, beq_eq_false_iff_ne, bne_eq_false_iff_eq, ne_eq, Int.not_lt, Int.not_le, gt_iff_lt, ge_iff_le, Bool.not_eq_true', Bool.not_eq_false'] at hb)) | ((with_reducible first | refine s_ret ?_ | refine s_normal ?_); try simp only [x_tup0, x_tup1, x_tup2, x_tup3, x_tup4, x_tup5, and_true, true_and])))
  · omega
  · rw [getD_ge xs (by omega), Nat.zero_div]; rfl
  · rw [and1]
end Go.Proofs.YtfacphjjkanajaaDoor.V
