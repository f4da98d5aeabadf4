/- A number divided by a number. -/
import Derived.Test.YtiijcncdjjdglaaGNQ
set_option linter.unusedSimpArgs false
set_option linter.unusedVariables false
-- @nums
-- @extra s_nsubc s_wconv s_nadd
namespace Go.Proofs.Ytiijcncdjjdglaa.V
open Go.RowKit Go.ChangeShapes Go.WideShapes
theorem divT1 (u v : Value) (a b b1 b2 : Nat) (e : TypeId) (G0 G : GH) (sl : Nat → Value) (ll : Nat → Array Value) (h0 : G0.le G) (c1 : G b1 = some (bx u e)) (c2 : G b2 = some (bx v e)) (hu : Nu .u64 G u (dg 18446744073709551616 a)) (hv : Nu .u64 G v (dg 18446744073709551616 b)) (hb0 : b ≠ 0) (hba : b ≤ a) (hk : (dg 18446744073709551616 a).length ≤ 64)
    (R : Value → GH → Prop) (hR : ∀ q r G', G0.le G' → Own 1 G0 G' q ((dg 18446744073709551616 (a / b)).map (iv .u64)) → Own 1 G0 G' r ((dg 18446744073709551616 (a % b)).map (iv .u64)) → (∀ b, blkS r = some b → blkS q ≠ some b) → R (.tuple #[q, r, .int .i64 0]) G') :
    vc Try.prog E41 (sndN 2 pc41) (endQ [.slot 4, .slot 5, .slot 6] R) (S (SL.sets sl [(2, pt b1), (3, pt b2)]) (AL.sets ll []) G) := by
  have B2 : 2 ≤ 18446744073709551616 := by decide
  have da := dg_lt B2 a
  have db := dg_lt B2 b
  have va := val_dg B2 a
  have vb := val_dg B2 b
  have hab := dg_len_mono B2 hba
  have hnb : 1 ≤ (dg 18446744073709551616 b).length := by
    rcases Nat.eq_zero_or_pos (dg 18446744073709551616 b).length with h | h
    · exact absurd ((dg_ne B2).1 (List.eq_nil_of_length_eq_zero h)) hb0
    · exact h
  have hyt : (dg 18446744073709551616 b).getD ((dg 18446744073709551616 b).length - 1) 0 * 18446744073709551616 ^ ((dg 18446744073709551616 b).length - 1) ≤ b := by
    have := val_top_le (B := 18446744073709551616) (xs := dg 18446744073709551616 b) (n := (dg 18446744073709551616 b).length - 1) (by omega)
    rwa [vb] at this
  have hyu : b < ((dg 18446744073709551616 b).getD ((dg 18446744073709551616 b).length - 1) 0 + 1) * 18446744073709551616 ^ ((dg 18446744073709551616 b).length - 1) := by
    have h1 := val_take_succ 18446744073709551616 (dg 18446744073709551616 b) ((dg 18446744073709551616 b).length - 1)
    rw [List.take_of_length_le (by omega), vb] at h1
    have h2 := val_lt (db.take ((dg 18446744073709551616 b).length - 1))
    rw [List.length_take, Nat.min_eq_left (by omega)] at h2
    rw [Nat.add_mul, Nat.one_mul, Nat.mul_comm]; omega
  have hy0 : (dg 18446744073709551616 b).getD ((dg 18446744073709551616 b).length - 1) 0 ≠ 0 := by
    intro h
    rw [h, Nat.zero_add, Nat.one_mul] at hyu
    have := dg_len_le B2 hyu
    omega
  have g1 := db.getD (by decide) ((dg 18446744073709551616 b).length - 1)
  have P1 := bx_ptr c1
  have P2 := bx_ptr c2
  have hT := divT2
  unfold pc41 at hT
  simp only [sndN, SL.sets, AL.sets] at hT
  unfold pc41
  simp only [sndN, SL.sets, AL.sets]
  (repeat' (first | (with_reducible refine i_ops ?_; first | (refine g_mv ?_; refine s_mv ?_) | refine o_nil ?_ | (refine g_len ?_; first | refine s_lenN ?_ | refine s_lenB ?_ | refine s_pure ?_) | (refine g_idx ?_; first | (refine s_idxN ?_; intro p hp; try simp only [Int.toNat_natCast] at hp) | (refine s_idxOB ?_; intro p hp hpw) | (refine s_idxB ?_; intro p hp)) | (refine g_slc ?_; ((first | refine s_slcB ?_ | refine s_slcB01 ?_ | refine s_slcB10 ?_); intro us hus hbs)) | (refine g_pure ?_; first | refine s_nsubc ?_ | refine s_wconv ?_ | refine s_nadd ?_ | refine s_pure ?_ | refine s_saddB ?_) | (refine g_hload ?_; refine s_hloadP ?_) | (refine g_hstore ?_; (refine s_hstoreB ?_; intro G' hle ho hkp))) | (with_reducible refine i_vc ?_; first | refine v_seq ?_ | refine v_ops ?_ | (refine g_cond ?_; first | refine s_cond_t ?_ | refine s_cond_f ?_) | refine v_block ?_ | refine v_skip ?_ | refine v_exit ?_ | refine v_ret ?_ | refine s_drawl ?_ | refine v_draw0 ?_) | (with_reducible refine i_plan ?_; first | refine p_done ?_ | refine s_pre ?_ | refine s_preN ?_ | refine s_ag_t ?_ | refine s_ag_f ?_ | refine s_alt ?_ | refine p_alt ?_ ?_) | (with_reducible first | refine n_then ?_ | refine r_then ?_ | refine e_then ?_ | refine n_block ?_ | refine r_block ?_ | refine e_block_eq (by with_unfolding_all rfl) ?_ | refine e_block_ne (by with_unfolding_all rfl) ?_ | (refine g_stand ?_; first | refine s_stand ?_ | refine s_standL ?_)) | ((with_reducible first | refine s_cond_c ?_ ?_) <;> intro hb <;> rw [hb] <;> (try simp only [decide_eq_true_eq, decide_eq_false_iff_not, beq_iff_eq, bne_iff_ne, beq_eq_false_iff_ne, bne_eq_false_iff_eq, ne_eq, Int.not_lt, Int.not_le, gt_iff_lt, ge_iff_le, Bool.not_eq_true', Bool.not_eq_false'] at hb)) | ((with_reducible first | refine s_ret ?_ | refine s_normal ?_); try simp only [x_tup0, x_tup1, x_tup2, x_tup3, x_tup4, x_tup5, and_true, true_and])))
  refine o_callc (by with_unfolding_all rfl) (LeadingZeros64s ((dg 18446744073709551616 b).getD ((dg 18446744073709551616 b).length - 1) 0) G g1 hy0) ?_
  rintro _ _ ⟨rfl, s, rfl, hs, -, hy2⟩
  (repeat' (first | (with_reducible refine i_ops ?_; first | (refine g_mv ?_; refine s_mv ?_) | refine o_nil ?_ | (refine g_len ?_; first | refine s_lenN ?_ | refine s_lenB ?_ | refine s_pure ?_) | (refine g_idx ?_; first | (refine s_idxN ?_; intro p hp; try simp only [Int.toNat_natCast] at hp) | (refine s_idxOB ?_; intro p hp hpw) | (refine s_idxB ?_; intro p hp)) | (refine g_slc ?_; ((first | refine s_slcB ?_ | refine s_slcB01 ?_ | refine s_slcB10 ?_); intro us hus hbs)) | (refine g_pure ?_; first | refine s_nsubc ?_ | refine s_wconv ?_ | refine s_nadd ?_ | refine s_pure ?_ | refine s_saddB ?_) | (refine g_hload ?_; refine s_hloadP ?_) | (refine g_hstore ?_; (refine s_hstoreB ?_; intro G' hle ho hkp))) | (with_reducible refine i_vc ?_; first | refine v_seq ?_ | refine v_ops ?_ | (refine g_cond ?_; first | refine s_cond_t ?_ | refine s_cond_f ?_) | refine v_block ?_ | refine v_skip ?_ | refine v_exit ?_ | refine v_ret ?_ | refine s_drawl ?_ | refine v_draw0 ?_) | (with_reducible refine i_plan ?_; first | refine p_done ?_ | refine s_pre ?_ | refine s_preN ?_ | refine s_ag_t ?_ | refine s_ag_f ?_ | refine s_alt ?_ | refine p_alt ?_ ?_) | (with_reducible first | refine n_then ?_ | refine r_then ?_ | refine e_then ?_ | refine n_block ?_ | refine r_block ?_ | refine e_block_eq (by with_unfolding_all rfl) ?_ | refine e_block_ne (by with_unfolding_all rfl) ?_ | (refine g_stand ?_; first | refine s_stand ?_ | refine s_standL ?_)) | ((with_reducible first | refine s_cond_c ?_ ?_) <;> intro hb <;> rw [hb] <;> (try simp only [decide_eq_true_eq, decide_eq_false_iff_not, beq_iff_eq, bne_iff_ne, beq_eq_false_iff_ne, bne_eq_false_iff_eq, ne_eq, Int.not_lt, Int.not_le, gt_iff_lt, ge_iff_le, Bool.not_eq_true', Bool.not_eq_false'] at hb)) | ((with_reducible first | refine s_ret ?_ | refine s_normal ?_); try simp only [x_tup0, x_tup1, x_tup2, x_tup3, x_tup4, x_tup5, and_true, true_and])))
  refine o_callc (by with_unfolding_all rfl) (left u (dg 18446744073709551616 a) s G hu da hs (by omega)) ?_
  rintro _ G1 ⟨b4, cs4, e4, o, rfl, f4, hle1, w4, ol, od, ov⟩
  have Q1 := bx_ptr (hle1 _ _ c1)
  have Q2 := bx_ptr (hle1 _ _ c2)
  have V2 := hv.le hle1
  (repeat' (first | (with_reducible refine i_ops ?_; first | (refine g_mv ?_; refine s_mv ?_) | refine o_nil ?_ | (refine g_len ?_; first | refine s_lenN ?_ | refine s_lenB ?_ | refine s_pure ?_) | (refine g_idx ?_; first | (refine s_idxN ?_; intro p hp; try simp only [Int.toNat_natCast] at hp) | (refine s_idxOB ?_; intro p hp hpw) | (refine s_idxB ?_; intro p hp)) | (refine g_slc ?_; ((first | refine s_slcB ?_ | refine s_slcB01 ?_ | refine s_slcB10 ?_); intro us hus hbs)) | (refine g_pure ?_; first | refine s_nsubc ?_ | refine s_wconv ?_ | refine s_nadd ?_ | refine s_pure ?_ | refine s_saddB ?_) | (refine g_hload ?_; refine s_hloadP ?_) | (refine g_hstore ?_; (refine s_hstoreB ?_; intro G' hle ho hkp))) | (with_reducible refine i_vc ?_; first | refine v_seq ?_ | refine v_ops ?_ | (refine g_cond ?_; first | refine s_cond_t ?_ | refine s_cond_f ?_) | refine v_block ?_ | refine v_skip ?_ | refine v_exit ?_ | refine v_ret ?_ | refine s_drawl ?_ | refine v_draw0 ?_) | (with_reducible refine i_plan ?_; first | refine p_done ?_ | refine s_pre ?_ | refine s_preN ?_ | refine s_ag_t ?_ | refine s_ag_f ?_ | refine s_alt ?_ | refine p_alt ?_ ?_) | (with_reducible first | refine n_then ?_ | refine r_then ?_ | refine e_then ?_ | refine n_block ?_ | refine r_block ?_ | refine e_block_eq (by with_unfolding_all rfl) ?_ | refine e_block_ne (by with_unfolding_all rfl) ?_ | (refine g_stand ?_; first | refine s_stand ?_ | refine s_standL ?_)) | ((with_reducible first | refine s_cond_c ?_ ?_) <;> intro hb <;> rw [hb] <;> (try simp only [decide_eq_true_eq, decide_eq_false_iff_not, beq_iff_eq, bne_iff_ne, beq_eq_false_iff_ne, bne_eq_false_iff_eq, ne_eq, Int.not_lt, Int.not_le, gt_iff_lt, ge_iff_le, Bool.not_eq_true', Bool.not_eq_false'] at hb)) | ((with_reducible first | refine s_ret ?_ | refine s_normal ?_); try simp only [x_tup0, x_tup1, x_tup2, x_tup3, x_tup4, x_tup5, and_true, true_and])))
  refine o_callc (by with_unfolding_all rfl) (left v (dg 18446744073709551616 b) s G1 V2 db hs (by omega)) ?_
  rintro _ G2 ⟨b5, cs5, e5, o5, rfl, f5, hle2, w5, ol5, od5, ov5⟩
  rw [vb] at ov5
  rw [va] at ov
  have n45 : b4 ≠ b5 := fun e => by have := w4.hG; rw [e, f5] at this; cases this
  have hdv := trim_nu (w5.nu' ol5) od5
  rw [ov5] at hdv
  (repeat' (first | (with_reducible refine i_ops ?_; first | (refine g_mv ?_; refine s_mv ?_) | refine o_nil ?_ | (refine g_len ?_; first | refine s_lenN ?_ | refine s_lenB ?_ | refine s_pure ?_) | (refine g_idx ?_; first | (refine s_idxN ?_; intro p hp; try simp only [Int.toNat_natCast] at hp) | (refine s_idxOB ?_; intro p hp hpw) | (refine s_idxB ?_; intro p hp)) | (refine g_slc ?_; ((first | refine s_slcB ?_ | refine s_slcB01 ?_ | refine s_slcB10 ?_); intro us hus hbs)) | (refine g_pure ?_; first | refine s_nsubc ?_ | refine s_wconv ?_ | refine s_nadd ?_ | refine s_pure ?_ | refine s_saddB ?_) | (refine g_hload ?_; refine s_hloadP ?_) | (refine g_hstore ?_; (refine s_hstoreB ?_; intro G' hle ho hkp))) | (with_reducible refine i_vc ?_; first | refine v_seq ?_ | refine v_ops ?_ | (refine g_cond ?_; first | refine s_cond_t ?_ | refine s_cond_f ?_) | refine v_block ?_ | refine v_skip ?_ | refine v_exit ?_ | refine v_ret ?_ | refine s_drawl ?_ | refine v_draw0 ?_) | (with_reducible refine i_plan ?_; first | refine p_done ?_ | refine s_pre ?_ | refine s_preN ?_ | refine s_ag_t ?_ | refine s_ag_f ?_ | refine s_alt ?_ | refine p_alt ?_ ?_) | (with_reducible first | refine n_then ?_ | refine r_then ?_ | refine e_then ?_ | refine n_block ?_ | refine r_block ?_ | refine e_block_eq (by with_unfolding_all rfl) ?_ | refine e_block_ne (by with_unfolding_all rfl) ?_ | (refine g_stand ?_; first | refine s_stand ?_ | refine s_standL ?_)) | ((with_reducible first | refine s_cond_c ?_ ?_) <;> intro hb <;> rw [hb] <;> (try simp only [decide_eq_true_eq, decide_eq_false_iff_not, beq_iff_eq, bne_iff_ne, beq_eq_false_iff_ne, bne_eq_false_iff_eq, ne_eq, Int.not_lt, Int.not_le, gt_iff_lt, ge_iff_le, Bool.not_eq_true', Bool.not_eq_false'] at hb)) | ((with_reducible first | refine s_ret ?_ | refine s_normal ?_); try simp only [x_tup0, x_tup1, x_tup2, x_tup3, x_tup4, x_tup5, and_true, true_and])))
  refine o_callp (by with_unfolding_all rfl) (trim (w5.nu' ol5) od5) ?_
  have hDlen : (dg 18446744073709551616 (b * 2 ^ s)).length = (dg 18446744073709551616 b).length := by
    have h1 : (dg 18446744073709551616 b).length ≤ (dg 18446744073709551616 (b * 2 ^ s)).length := dg_len_mono B2 (Nat.le_mul_of_pos_right b (Nat.two_pow_pos s))
    have h2 : (dg 18446744073709551616 (b * 2 ^ s)).length ≤ (dg 18446744073709551616 b).length := by
      refine dg_len_le B2 ?_
      have e3 : (2 : Nat) ^ (64 - s) * 2 ^ s = 18446744073709551616 := by rw [← Nat.pow_add, show 64 - s + s = 64 by omega]
      have h3 : (dg 18446744073709551616 b).getD ((dg 18446744073709551616 b).length - 1) 0 < 2 ^ (64 - s) := by
        exact Nat.lt_of_mul_lt_mul_right (a := 2 ^ s) (by rw [e3]; exact hy2)
      have h4 : ((dg 18446744073709551616 b).getD ((dg 18446744073709551616 b).length - 1) 0 + 1) * 2 ^ s ≤ 18446744073709551616 := by
        have := Nat.mul_le_mul_right (2 ^ s) (show (dg 18446744073709551616 b).getD ((dg 18446744073709551616 b).length - 1) 0 + 1 ≤ 2 ^ (64 - s) from h3)
        rwa [e3] at this
      have h5 := Nat.mul_lt_mul_of_pos_right hyu (Nat.two_pow_pos s)
      have h6 := Nat.mul_le_mul_right (18446744073709551616 ^ ((dg 18446744073709551616 b).length - 1)) h4
      rw [← Nat.pow_succ', show ((dg 18446744073709551616 b).length - 1).succ = (dg 18446744073709551616 b).length by omega] at h6
      rw [Nat.mul_right_comm] at h5
      omega
    omega
  have hle02 : G0.le G2 := GH.le_trans h0 (GH.le_trans hle1 hle2)
  have g04 : G0 b4 = none := by
    cases e : G0 b4 with
    | none => rfl
    | some ob => have := h0 _ _ e; rw [f4] at this; cases this
  have w42 := w4.le hle2
  (repeat' (first | (with_reducible refine i_ops ?_; first | (refine g_mv ?_; refine s_mv ?_) | refine o_nil ?_ | (refine g_len ?_; first | refine s_lenN ?_ | refine s_lenB ?_ | refine s_pure ?_) | (refine g_idx ?_; first | (refine s_idxN ?_; intro p hp; try simp only [Int.toNat_natCast] at hp) | (refine s_idxOB ?_; intro p hp hpw) | (refine s_idxB ?_; intro p hp)) | (refine g_slc ?_; ((first | refine s_slcB ?_ | refine s_slcB01 ?_ | refine s_slcB10 ?_); intro us hus hbs)) | (refine g_pure ?_; first | refine s_nsubc ?_ | refine s_wconv ?_ | refine s_nadd ?_ | refine s_pure ?_ | refine s_saddB ?_) | (refine g_hload ?_; refine s_hloadP ?_) | (refine g_hstore ?_; (refine s_hstoreB ?_; intro G' hle ho hkp))) | (with_reducible refine i_vc ?_; first | refine v_seq ?_ | refine v_ops ?_ | (refine g_cond ?_; first | refine s_cond_t ?_ | refine s_cond_f ?_) | refine v_block ?_ | refine v_skip ?_ | refine v_exit ?_ | refine v_ret ?_ | refine s_drawl ?_ | refine v_draw0 ?_) | (with_reducible refine i_plan ?_; first | refine p_done ?_ | refine s_pre ?_ | refine s_preN ?_ | refine s_ag_t ?_ | refine s_ag_f ?_ | refine s_alt ?_ | refine p_alt ?_ ?_) | (with_reducible first | refine n_then ?_ | refine r_then ?_ | refine e_then ?_ | refine n_block ?_ | refine r_block ?_ | refine e_block_eq (by with_unfolding_all rfl) ?_ | refine e_block_ne (by with_unfolding_all rfl) ?_ | (refine g_stand ?_; first | refine s_stand ?_ | refine s_standL ?_)) | ((with_reducible first | refine s_cond_c ?_ ?_) <;> intro hb <;> rw [hb] <;> (try simp only [decide_eq_true_eq, decide_eq_false_iff_not, beq_iff_eq, bne_iff_ne, beq_eq_false_iff_ne, bne_eq_false_iff_eq, ne_eq, Int.not_lt, Int.not_le, gt_iff_lt, ge_iff_le, Bool.not_eq_true', Bool.not_eq_false'] at hb)) | ((with_reducible first | refine s_ret ?_ | refine s_normal ?_); try simp only [x_tup0, x_tup1, x_tup2, x_tup3, x_tup4, x_tup5, and_true, true_and])))
  have hst : val 18446744073709551616 (o.drop ((dg 18446744073709551616 a).length + 1 - (dg 18446744073709551616 b).length)) < b * 2 ^ s := by
    have h1 := val_split 18446744073709551616 o ((dg 18446744073709551616 a).length + 1 - (dg 18446744073709551616 b).length)
    rw [ov] at h1
    have h2 := Nat.mul_lt_mul_of_pos_right (lt_dg B2 a) (Nat.two_pow_pos s)
    have h3 : 18446744073709551616 ^ (dg 18446744073709551616 a).length = 18446744073709551616 ^ ((dg 18446744073709551616 a).length + 1 - (dg 18446744073709551616 b).length) * 18446744073709551616 ^ ((dg 18446744073709551616 b).length - 1) := by rw [← Nat.pow_add]; congr 1; omega
    rw [h3, Nat.mul_assoc] at h2
    have h4 : 18446744073709551616 ^ ((dg 18446744073709551616 a).length + 1 - (dg 18446744073709551616 b).length) * val 18446744073709551616 (o.drop ((dg 18446744073709551616 a).length + 1 - (dg 18446744073709551616 b).length)) < 18446744073709551616 ^ ((dg 18446744073709551616 a).length + 1 - (dg 18446744073709551616 b).length) * (18446744073709551616 ^ ((dg 18446744073709551616 b).length - 1) * 2 ^ s) := by omega
    have h5 := Nat.lt_of_mul_lt_mul_left h4
    have h6 : 18446744073709551616 ^ ((dg 18446744073709551616 b).length - 1) ≤ b := by
      have := Nat.mul_le_mul_right (18446744073709551616 ^ ((dg 18446744073709551616 b).length - 1)) (Nat.pos_of_ne_zero hy0)
      rw [Nat.succ_eq_add_one, Nat.zero_add, Nat.one_mul] at this; omega
    have h7 := Nat.mul_le_mul_right (2 ^ s) h6
    omega
  have hp : 0 < 2 ^ s := Nat.two_pow_pos s
  have hq1 : a * 2 ^ s / (b * 2 ^ s) = a / b := Nat.mul_div_mul_right _ _ hp
  have hr1 : a * 2 ^ s % (b * 2 ^ s) = a % b * 2 ^ s := Nat.mul_mod_mul_right _ _ _
  clear hyt hyu hy0 g1 hy2 hu hv V2 Q1 Q2 P1 P2 c1 c2 ol5 od5 ov5 db vb va
  have elq : (((dg 18446744073709551616 a).length + 1 : Nat) : Int) - ((dg 18446744073709551616 b).length : Int) = (((dg 18446744073709551616 a).length + 1 - (dg 18446744073709551616 b).length : Nat) : Int) := by omega
  have hbk : blkS (trimS (.slice (some ⟨b5, 0, none⟩) ((dg 18446744073709551616 b).length + 1) ((dg 18446744073709551616 b).length + 1)) (ln o5)) = some b5 := rfl
  generalize trimS (.slice (some ⟨b5, 0, none⟩) ((dg 18446744073709551616 b).length + 1) ((dg 18446744073709551616 b).length + 1)) (ln o5) = v5 at *
  rw [hDlen, elq]
  generalize hna : (dg 18446744073709551616 a).length = na at *
  generalize hnb' : (dg 18446744073709551616 b).length = nb at *
  refine o_mkW .u64 (na + 1 - nb) (by with_unfolding_all rfl) (by with_unfolding_all rfl) rfl rfl rfl (by omega) ?_
  intro b6 cs6 G6 hb6 hle6 _ w6
  have g06 : G0 b6 = none := by
    cases e : G0 b6 with
    | none => rfl
    | some ob => have := hle02 _ _ e; rw [hb6] at this; cases this
  have n46 : b4 ≠ b6 := fun e => by have := w42.hG; rw [e, hb6] at this; cases this
  have n56 : b5 ≠ b6 := fun e => by have := w5.hG; rw [e, hb6] at this; cases this
  refine s_mv ?_
  refine n_then ?_
  refine v_trim [(9, iv .u64 s), (10, .slice (some ⟨b4, 0, none⟩) (na + 1) (na + 1)), (11, v5), (12, .int .i64 nb), (13, .slice (some ⟨b6, 0, none⟩) (na + 1 - nb) (na + 1 - nb))] [] (by refine ⟨SL.get_fn (by with_unfolding_all rfl), SL.get_fn (by with_unfolding_all rfl), SL.get_fn (by with_unfolding_all rfl), SL.get_fn (by with_unfolding_all rfl), SL.get_fn (by with_unfolding_all rfl), trivial⟩) trivial ?_
  intro s3 l3
  refine hT s nb (na + 1) (na + 1 - nb) b4 b6 (b * 2 ^ s) (a * 2 ^ s) (a % b) v5 cs4 cs6 e4 _ o G0 G6 s3 l3 R (GH.le_trans hle02 hle6) g04 g06 n46 ?_ ?_ (w42.le hle6) w6 (hdv.le hle6) (by rw [ol]) od hDlen hnb (by omega) (by omega) (by omega) hs ov hst hr1 ?_
  · rw [hbk]; intro h; exact n45 (Option.some.inj h).symm
  · rw [hbk]; intro h; exact n56 (Option.some.inj h)
  · rw [hq1]; exact hR
end Go.Proofs.Ytiijcncdjjdglaa.V
