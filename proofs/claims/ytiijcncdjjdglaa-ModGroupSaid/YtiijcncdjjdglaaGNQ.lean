/- A division's loop, walked. -/
import Derived.Test.YtiijcncdjjdglaaGNP
set_option linter.unusedSimpArgs false
set_option linter.unusedVariables false
set_option maxHeartbeats 1000000
-- @nums
-- @extra s_nadd s_naddc s_nsubc s_wsubc
namespace Go.Proofs.Ytiijcncdjjdglaa.V
open Go.RowKit Go.ChangeShapes Go.WideShapes
theorem only_none' {G : GH} {u : Value} {b : Nat} (h : G b = none) : (G.only u) b = none := by unfold GH.only; split <;> first | exact h | rfl
theorem divT2 (s n la lq b4 b6 D A rr : Nat) (v : Value) (cs4 cs6 : Array Value) (e4 e6 : TypeId) (o0 : List Nat) (G0 G : GH) (sl : Nat → Value) (ll : Nat → Array Value) (R : Value → GH → Prop) (h0 : G0.le G) (hb4 : G0 b4 = none) (hb6 : G0 b6 = none) (h46 : b4 ≠ b6) (hv4 : blkS v ≠ some b4) (hv6 : blkS v ≠ some b6)
    (w4 : Win .u64 G b4 0 cs4 e4 (0, 0) o0) (w6 : Win .u64 G b6 0 cs6 e6 (0, 0) (List.replicate lq 0)) (hv : Nu .u64 G v (dg 18446744073709551616 D)) (hol : o0.length = la) (d4 : Dl 18446744073709551616 o0) (hn : (dg 18446744073709551616 D).length = n) (hn1 : 1 ≤ n) (hla : la = lq + n) (hnla : n < la) (hlal : la ≤ 1000) (hs : s ≤ 63)
    (hA : val 18446744073709551616 o0 = A) (hst : val 18446744073709551616 (o0.drop lq) < D) (hrr : A % D = rr * 2 ^ s)
    (hR : ∀ q r G', G0.le G' → Own 1 G0 G' q ((dg 18446744073709551616 (A / D)).map (iv .u64)) → Own 1 G0 G' r ((dg 18446744073709551616 rr).map (iv .u64)) → (∀ b, blkS r = some b → blkS q ≠ some b) → R (.tuple #[q, r, .int .i64 0]) G') :
    vc Try.prog E41 (sndN 7 pc41) (endQ [.slot 4, .slot 5, .slot 6] R) (S (SL.sets sl [(9, iv .u64 s), (10, .slice (some ⟨b4, 0, none⟩) la la), (11, v), (12, .int .i64 n), (13, .slice (some ⟨b6, 0, none⟩) lq lq)]) (AL.sets ll []) G) := by
  have B2 : 2 ≤ 18446744073709551616 := by decide
  have dD := dg_lt B2 D
  have vD := val_dg B2 D
  have hD : 0 < D := by
    rcases Nat.eq_zero_or_pos D with h | h
    · rw [h, dg_zero] at hn; simp at hn; omega
    · exact h
  have hDn : D < 18446744073709551616 ^ n := by rw [← hn]; exact lt_dg B2 D
  have hyt : (dg 18446744073709551616 D).getD (n - 1) 0 * 18446744073709551616 ^ (n - 1) ≤ D := by
    have := val_top_le (B := 18446744073709551616) (xs := dg 18446744073709551616 D) (n := n - 1) (by omega)
    rwa [vD] at this
  have hy0 : (dg 18446744073709551616 D).getD (n - 1) 0 ≠ 0 := by
    intro h
    have h1 : val 18446744073709551616 (dg 18446744073709551616 D) < 18446744073709551616 ^ (n - 1) := by
      have := val_take_zero (B := 18446744073709551616) (xs := dg 18446744073709551616 D) (n := n - 1) fun j hj => by
        by_cases hj2 : j = n - 1
        · rw [hj2]; exact h
        · exact getD_ge _ (by omega)
      rw [← this]
      have h2 := val_lt (dD.take (n - 1))
      rwa [List.length_take, Nat.min_eq_left (by omega)] at h2
    rw [vD] at h1
    have := dg_len_le B2 h1
    omega
  have hT := divT3
  unfold pc41 at hT
  simp only [sndN, SL.sets, AL.sets] at hT
  unfold pc41
  simp only [sndN, SL.sets, AL.sets]
  (repeat (first | (with_reducible refine i_ops ?_; first | (refine g_mv ?_; refine s_mv ?_) | refine o_nil ?_ | (refine g_len ?_; first | refine s_lenN ?_ | refine s_lenB ?_ | refine s_pure ?_) | (refine g_idx ?_; first | (refine s_idxN ?_; intro p hp; try simp only [Int.toNat_natCast] at hp) | (refine s_idxOB ?_; intro p hp hpw) | (refine s_idxB ?_; intro p hp)) | (refine g_slc ?_; ((first | refine s_slcB ?_ | refine s_slcB01 ?_ | refine s_slcB10 ?_); intro us hus hbs)) | (refine g_pure ?_; first | refine s_nadd ?_ | refine s_naddc ?_ | refine s_nsubc ?_ | refine s_wsubc ?_ | refine s_pure ?_ | refine s_saddB ?_) | (refine g_hload ?_; refine s_hloadP ?_) | (refine g_hstore ?_; (refine s_hstoreB ?_; intro G' hle ho hkp))) | (with_reducible refine i_vc ?_; first | refine v_seq ?_ | refine v_ops ?_ | (refine g_cond ?_; first | refine s_cond_t ?_ | refine s_cond_f ?_) | refine v_block ?_ | refine v_skip ?_ | refine v_exit ?_ | refine v_ret ?_ | refine s_drawl ?_ | refine v_draw0 ?_) | (with_reducible refine i_plan ?_; first | refine p_done ?_ | refine s_pre ?_ | refine s_preN ?_ | refine s_ag_t ?_ | refine s_ag_f ?_ | refine s_alt ?_ | refine p_alt ?_ ?_) | (with_reducible first | refine n_then ?_ | refine r_then ?_ | refine e_then ?_ | refine n_block ?_ | refine r_block ?_ | refine e_block_eq (by with_unfolding_all rfl) ?_ | refine e_block_ne (by with_unfolding_all rfl) ?_ | (refine g_stand ?_; first | refine s_stand ?_ | refine s_standL ?_))))
  have elq : iv .i64 (lq - 1) = .int .i64 ((lq : Int) - 1) := by simp only [iv]; congr 1; omega
  rw [elq]
  generalize hQ : thenQ (vc Try.prog E41 _ _) _ = Q'
  refine v_loopX (α := Nat × List Nat × List Nat × Array Value × Array Value × GH) (fun x => x.1 ≤ lq ∧ x.2.1.length = la ∧ Dl 18446744073709551616 x.2.1 ∧ x.2.2.1.length = lq ∧ Dl 18446744073709551616 x.2.2.1 ∧ (∀ j, x.1 + n ≤ j → x.2.1.getD j 0 = 0) ∧ val 18446744073709551616 (x.2.1.drop x.1) < D ∧ A = val 18446744073709551616 x.2.1 + D * (18446744073709551616 ^ x.1 * val 18446744073709551616 (x.2.2.1.drop x.1)) ∧ Win .u64 x.2.2.2.2.2 b4 0 x.2.2.2.1 e4 (0, 0) x.2.1 ∧ Win .u64 x.2.2.2.2.2 b6 0 x.2.2.2.2.1 e6 (0, 0) x.2.2.1 ∧ Nu .u64 x.2.2.2.2.2 v (dg 18446744073709551616 D) ∧ G0.le x.2.2.2.2.2)
    (fun x => [(9, iv .u64 s), (10, .slice (some ⟨b4, 0, none⟩) la la), (11, v), (12, .int .i64 n), (13, .slice (some ⟨b6, 0, none⟩) lq lq), (14, .int .i64 ((x.1 : Int) - 1))]) (fun _ => []) (fun x => x.2.2.2.2.2) (fun x => x.1) (lq, o0, List.replicate lq 0, cs4, cs6, G)
    ⟨Nat.le_refl _, hol, d4, by simp, Dl.rep _ (by decide), fun j hj => getD_ge o0 (show o0.length ≤ j by dsimp only at hj; omega), hst, by dsimp only; rw [List.drop_of_length_le (by simp)]; simp [val, hA], w4, w6, hv, h0⟩ (by refine ⟨SL.get_fn (by with_unfolding_all rfl), SL.get_fn (by with_unfolding_all rfl), SL.get_fn (by with_unfolding_all rfl), SL.get_fn (by with_unfolding_all rfl), SL.get_fn (by with_unfolding_all rfl), SL.get_fn (by with_unfolding_all rfl), trivial⟩) trivial rfl ?_
  rintro ⟨m, o, qs, c4, c6, H⟩ sl2 ll2 ⟨k1, k2, k3, k4, k5, k6, k7, k8, k9, k10, k11, k12⟩
  dsimp only at k1 k2 k3 k4 k5 k6 k7 k8 k9 k10 k11 k12
  dsimp only [SL.sets, AL.sets]
  rcases m with _ | m
  · (repeat' (first | (with_reducible refine i_ops ?_; first | (refine g_mv ?_; refine s_mv ?_) | refine o_nil ?_ | (refine g_len ?_; first | refine s_lenN ?_ | refine s_lenB ?_ | refine s_pure ?_) | (refine g_idx ?_; first | (refine s_idxN ?_; intro p hp; try simp only [Int.toNat_natCast] at hp) | (refine s_idxOB ?_; intro p hp hpw) | (refine s_idxB ?_; intro p hp)) | (refine g_slc ?_; ((first | refine s_slcB ?_ | refine s_slcB01 ?_ | refine s_slcB10 ?_); intro us hus hbs)) | (refine g_pure ?_; first | refine s_nadd ?_ | refine s_naddc ?_ | refine s_nsubc ?_ | refine s_wsubc ?_ | refine s_pure ?_ | refine s_saddB ?_) | (refine g_hload ?_; refine s_hloadP ?_) | (refine g_hstore ?_; (refine s_hstoreB ?_; intro G' hle ho hkp))) | (with_reducible refine i_vc ?_; first | refine v_seq ?_ | refine v_ops ?_ | (refine g_cond ?_; first | refine s_cond_t ?_ | refine s_cond_f ?_) | refine v_block ?_ | refine v_skip ?_ | refine v_exit ?_ | refine v_ret ?_ | refine s_drawl ?_ | refine v_draw0 ?_) | (with_reducible refine i_plan ?_; first | refine p_done ?_ | refine s_pre ?_ | refine s_preN ?_ | refine s_ag_t ?_ | refine s_ag_f ?_ | refine s_alt ?_ | refine p_alt ?_ ?_) | (with_reducible first | refine n_then ?_ | refine r_then ?_ | refine e_then ?_ | refine n_block ?_ | refine r_block ?_ | refine e_block_eq (by with_unfolding_all rfl) ?_ | refine e_block_ne (by with_unfolding_all rfl) ?_ | (refine g_stand ?_; first | refine s_stand ?_ | refine s_standL ?_)) | ((with_reducible first | refine s_cond_c ?_ ?_) <;> intro hb <;> rw [hb] <;> (try simp only [decide_eq_true_eq, decide_eq_false_iff_not, beq_iff_eq, bne_iff_ne, beq_eq_false_iff_ne, bne_eq_false_iff_eq, ne_eq, Int.not_lt, Int.not_le, gt_iff_lt, ge_iff_le, Bool.not_eq_true', Bool.not_eq_false'] at hb)) | ((with_reducible first | refine s_ret ?_ | refine s_normal ?_); try simp only [x_tup0, x_tup1, x_tup2, x_tup3, x_tup4, x_tup5, and_true, true_and])))
    · exfalso; omega
    rw [Nat.pow_zero, Nat.one_mul, List.drop_zero] at k8
    rw [List.drop_zero] at k7
    have hq : A / D = val 18446744073709551616 qs := by rw [k8, Nat.add_mul_div_left _ _ hD, Nat.div_eq_of_lt k7, Nat.zero_add]
    have hr : A % D = val 18446744073709551616 o := by rw [k8, Nat.add_mul_mod_self_left, Nat.mod_eq_of_lt k7]
    rw [hr] at hrr
    rw [hq] at hR
    subst hQ
    refine n_then ?_
    refine v_trim [(9, iv .u64 s), (10, .slice (some ⟨b4, 0, none⟩) la la), (12, .int .i64 n), (13, .slice (some ⟨b6, 0, none⟩) lq lq)] [] (by refine ⟨SL.get_fn (by with_unfolding_all rfl), SL.get_fn (by with_unfolding_all rfl), SL.get_fn (by with_unfolding_all rfl), SL.get_fn (by with_unfolding_all rfl), trivial⟩) trivial ?_
    intro s3 l3
    exact hT s n la lq b4 b6 rr c4 c6 e4 e6 o qs G0 H s3 l3 R k12 hb4 hb6 k9 k10 k2 k4 k3 k5 hnla (by omega) hs (fun j hj => k6 j (by omega)) hrr hR
  clear hT
  rw [show (((m + 1 : Nat) : Int) - 1) = (m : Int) by omega]
  -- the window
  have hwl : ((o.drop m).take (n + 1)).length = n + 1 := by rw [List.length_take, List.length_drop]; omega
  have hwz : ∀ j, n + 1 ≤ j → (o.drop m).getD j 0 = 0 := fun j hj => by rw [getD_drop]; exact k6 _ (by omega)
  have hwv : val 18446744073709551616 ((o.drop m).take (n + 1)) = o.getD m 0 + 18446744073709551616 * val 18446744073709551616 (o.drop (m + 1)) := by rw [val_take_zero hwz, val_drop]
  have hwd : Dl 18446744073709551616 ((o.drop m).take (n + 1)) := (k3.drop m).take _
  have gm := k3.getD (by decide) m
  have hXD : val 18446744073709551616 ((o.drop m).take (n + 1)) < 18446744073709551616 * D := by
    have := Nat.mul_le_mul_left 18446744073709551616 (show val 18446744073709551616 (o.drop (m + 1)) + 1 ≤ D from k7)
    rw [hwv]; rw [Nat.mul_add] at this; omega
  have hov : val 18446744073709551616 o = val 18446744073709551616 (o.take m) + 18446744073709551616 ^ m * val 18446744073709551616 ((o.drop m).take (n + 1)) := by rw [val_split 18446744073709551616 o m, val_take_zero hwz]
  have w4w : ∀ H', H' b4 = H b4 → Win .u64 H' b4 (0 + m) c4 e4 (0, 0) ((o.drop m).take (n + 1)) := fun H' h => (k9.keep h).sub m (n + 1) (by omega)
  have hgt : val 18446744073709551616 ((o.drop m).take (n + 1)) < (o.getD (m + n) 0 * 18446744073709551616 + o.getD (m + n - 1) 0 + 1) * 18446744073709551616 ^ (n - 1) := by
    have := val_top (B := 18446744073709551616) (xs := (o.drop m).take (n + 1)) (n := n - 1) (by decide) hwd (by omega)
    rwa [getD_take _ (by omega), getD_take _ (by omega), getD_drop, getD_drop, show n - 1 + 1 = n by omega, show m + (n - 1) = m + n - 1 by omega] at this
  have hge := guess_ge (by decide) hD hXD (Nat.pos_of_ne_zero hy0) hgt hyt
  generalize hX : val 18446744073709551616 ((o.drop m).take (n + 1)) = X at *
  have g1 := k3.getD (by decide) (m + n)
  have g2 := k3.getD (by decide) (m + n - 1)
  have g3 := dD.getD (by decide) (n - 1)
  have hgl : (if (dg 18446744073709551616 D).getD (n - 1) 0 ≤ o.getD (m + n) 0 then 18446744073709551616 - 1 else (o.getD (m + n) 0 * 18446744073709551616 + o.getD (m + n - 1) 0) / (dg 18446744073709551616 D).getD (n - 1) 0) < 18446744073709551616 := by
    split
    · decide
    · rename_i hlt
      refine (Nat.div_lt_iff_lt_mul (by omega)).2 ?_
      have : (o.getD (m + n) 0 + 1) * 18446744073709551616 ≤ (dg 18446744073709551616 D).getD (n - 1) 0 * 18446744073709551616 := Nat.mul_le_mul_right _ (by omega)
      rw [Nat.add_mul, Nat.one_mul] at this
      rw [Nat.mul_comm 18446744073709551616]; omega
  have P1 := k9.ptr (i := m + n) (by omega)
  have P2 := k9.ptr (i := m + n - 1) (by omega)
  (repeat' (first | (with_reducible refine i_ops ?_; first | (refine g_mv ?_; refine s_mv ?_) | refine o_nil ?_ | (refine g_len ?_; first | refine s_lenN ?_ | refine s_lenB ?_ | refine s_pure ?_) | (refine g_idx ?_; first | (refine s_idxN ?_; intro p hp; try simp only [Int.toNat_natCast] at hp) | (refine s_idxOB ?_; intro p hp hpw) | (refine s_idxB ?_; intro p hp)) | (refine g_slc ?_; ((first | refine s_slcB ?_ | refine s_slcB01 ?_ | refine s_slcB10 ?_); intro us hus hbs)) | (refine g_pure ?_; first | refine s_nadd ?_ | refine s_naddc ?_ | refine s_nsubc ?_ | refine s_wsubc ?_ | refine s_pure ?_ | refine s_saddB ?_) | (refine g_hload ?_; refine s_hloadP ?_) | (refine g_hstore ?_; (refine s_hstoreB ?_; intro G' hle ho hkp))) | (with_reducible refine i_vc ?_; first | refine v_seq ?_ | refine v_ops ?_ | (refine g_cond ?_; first | refine s_cond_t ?_ | refine s_cond_f ?_) | refine v_block ?_ | refine v_skip ?_ | refine v_exit ?_ | refine v_ret ?_ | refine s_drawl ?_ | refine v_draw0 ?_) | (with_reducible refine i_plan ?_; first | refine p_done ?_ | refine s_pre ?_ | refine s_preN ?_ | refine s_ag_t ?_ | refine s_ag_f ?_ | refine s_alt ?_ | refine p_alt ?_ ?_) | (with_reducible first | refine n_then ?_ | refine r_then ?_ | refine e_then ?_ | refine n_block ?_ | refine r_block ?_ | refine e_block_eq (by with_unfolding_all rfl) ?_ | refine e_block_ne (by with_unfolding_all rfl) ?_ | (refine g_stand ?_; first | refine s_stand ?_ | refine s_standL ?_)) | ((with_reducible first | refine s_cond_c ?_ ?_) <;> intro hb <;> rw [hb] <;> (try simp only [decide_eq_true_eq, decide_eq_false_iff_not, beq_iff_eq, bne_iff_ne, beq_eq_false_iff_ne, bne_eq_false_iff_eq, ne_eq, Int.not_lt, Int.not_le, gt_iff_lt, ge_iff_le, Bool.not_eq_true', Bool.not_eq_false'] at hb)) | ((with_reducible first | refine s_ret ?_ | refine s_normal ?_); try simp only [x_tup0, x_tup1, x_tup2, x_tup3, x_tup4, x_tup5, and_true, true_and])))
  rotate_right
  · exfalso; omega
  refine o_idxW (i := m + n) (by with_unfolding_all rfl) (by with_unfolding_all rfl) (by omega) ?_
  (repeat' (first | (with_reducible refine i_ops ?_; first | (refine g_mv ?_; refine s_mv ?_) | refine o_nil ?_ | (refine g_len ?_; first | refine s_lenN ?_ | refine s_lenB ?_ | refine s_pure ?_) | (refine g_idx ?_; first | (refine s_idxN ?_; intro p hp; try simp only [Int.toNat_natCast] at hp) | (refine s_idxOB ?_; intro p hp hpw) | (refine s_idxB ?_; intro p hp)) | (refine g_slc ?_; ((first | refine s_slcB ?_ | refine s_slcB01 ?_ | refine s_slcB10 ?_); intro us hus hbs)) | (refine g_pure ?_; first | refine s_nadd ?_ | refine s_naddc ?_ | refine s_nsubc ?_ | refine s_wsubc ?_ | refine s_pure ?_ | refine s_saddB ?_) | (refine g_hload ?_; refine s_hloadP ?_) | (refine g_hstore ?_; (refine s_hstoreB ?_; intro G' hle ho hkp))) | (with_reducible refine i_vc ?_; first | refine v_seq ?_ | refine v_ops ?_ | (refine g_cond ?_; first | refine s_cond_t ?_ | refine s_cond_f ?_) | refine v_block ?_ | refine v_skip ?_ | refine v_exit ?_ | refine v_ret ?_ | refine s_drawl ?_ | refine v_draw0 ?_) | (with_reducible refine i_plan ?_; first | refine p_done ?_ | refine s_pre ?_ | refine s_preN ?_ | refine s_ag_t ?_ | refine s_ag_f ?_ | refine s_alt ?_ | refine p_alt ?_ ?_) | (with_reducible first | refine n_then ?_ | refine r_then ?_ | refine e_then ?_ | refine n_block ?_ | refine r_block ?_ | refine e_block_eq (by with_unfolding_all rfl) ?_ | refine e_block_ne (by with_unfolding_all rfl) ?_ | (refine g_stand ?_; first | refine s_stand ?_ | refine s_standL ?_)) | ((with_reducible first | refine s_cond_c ?_ ?_) <;> intro hb <;> rw [hb] <;> (try simp only [decide_eq_true_eq, decide_eq_false_iff_not, beq_iff_eq, bne_iff_ne, beq_eq_false_iff_ne, bne_eq_false_iff_eq, ne_eq, Int.not_lt, Int.not_le, gt_iff_lt, ge_iff_le, Bool.not_eq_true', Bool.not_eq_false'] at hb)) | ((with_reducible first | refine s_ret ?_ | refine s_normal ?_); try simp only [x_tup0, x_tup1, x_tup2, x_tup3, x_tup4, x_tup5, and_true, true_and])))
  refine o_idxW (i := m + n - 1) (by with_unfolding_all rfl) (by with_unfolding_all rfl) (by omega) ?_
  (repeat' (first | (with_reducible refine i_ops ?_; first | (refine g_mv ?_; refine s_mv ?_) | refine o_nil ?_ | (refine g_len ?_; first | refine s_lenN ?_ | refine s_lenB ?_ | refine s_pure ?_) | (refine g_idx ?_; first | (refine s_idxN ?_; intro p hp; try simp only [Int.toNat_natCast] at hp) | (refine s_idxOB ?_; intro p hp hpw) | (refine s_idxB ?_; intro p hp)) | (refine g_slc ?_; ((first | refine s_slcB ?_ | refine s_slcB01 ?_ | refine s_slcB10 ?_); intro us hus hbs)) | (refine g_pure ?_; first | refine s_nadd ?_ | refine s_naddc ?_ | refine s_nsubc ?_ | refine s_wsubc ?_ | refine s_pure ?_ | refine s_saddB ?_) | (refine g_hload ?_; refine s_hloadP ?_) | (refine g_hstore ?_; (refine s_hstoreB ?_; intro G' hle ho hkp)) | refine o_callp (by with_unfolding_all rfl) (by first | exact guess (o.getD (m + n) 0) (o.getD (m + n - 1) 0) ((dg 18446744073709551616 D).getD (n - 1) 0) _ g1 g2 g3) ?_ | (refine o_callg (by with_unfolding_all rfl) (by first | exact guess (o.getD (m + n) 0) (o.getD (m + n - 1) 0) ((dg 18446744073709551616 D).getD (n - 1) 0) _ g1 g2 g3) ?_; intro G' hle)) | (with_reducible refine i_vc ?_; first | refine v_seq ?_ | refine v_ops ?_ | (refine g_cond ?_; first | refine s_cond_t ?_ | refine s_cond_f ?_) | refine v_block ?_ | refine v_skip ?_ | refine v_exit ?_ | refine v_ret ?_ | refine s_drawl ?_ | refine v_draw0 ?_) | (with_reducible refine i_plan ?_; first | refine p_done ?_ | refine s_pre ?_ | refine s_preN ?_ | refine s_ag_t ?_ | refine s_ag_f ?_ | refine p_callp (by with_unfolding_all rfl) (by first | exact guess (o.getD (m + n) 0) (o.getD (m + n - 1) 0) ((dg 18446744073709551616 D).getD (n - 1) 0) _ g1 g2 g3) (by first | assumption | exact GH.le_refl _ | ((repeat (first | exact GH.le_refl _ | assumption | refine GH.le_trans ?_ (by assumption))); first | done | fail)) ?_ p_no | (refine p_callg (by with_unfolding_all rfl) (by first | exact guess (o.getD (m + n) 0) (o.getD (m + n - 1) 0) ((dg 18446744073709551616 D).getD (n - 1) 0) _ g1 g2 g3) (by first | assumption | exact GH.le_refl _ | ((repeat (first | exact GH.le_refl _ | assumption | refine GH.le_trans ?_ (by assumption))); first | done | fail)) ?_ p_no; intro G' hle) | refine s_alt ?_ | refine p_alt ?_ ?_) | (with_reducible first | refine n_then ?_ | refine r_then ?_ | refine e_then ?_ | refine n_block ?_ | refine r_block ?_ | refine e_block_eq (by with_unfolding_all rfl) ?_ | refine e_block_ne (by with_unfolding_all rfl) ?_ | (refine g_stand ?_; first | refine s_stand ?_ | refine s_standL ?_)) | ((with_reducible first | refine s_cond_c ?_ ?_) <;> intro hb <;> rw [hb] <;> (try simp only [decide_eq_true_eq, decide_eq_false_iff_not, beq_iff_eq, bne_iff_ne, beq_eq_false_iff_ne, bne_eq_false_iff_eq, ne_eq, Int.not_lt, Int.not_le, gt_iff_lt, ge_iff_le, Bool.not_eq_true', Bool.not_eq_false'] at hb)) | ((with_reducible first | refine s_ret ?_ | refine s_normal ?_); try simp only [x_tup0, x_tup1, x_tup2, x_tup3, x_tup4, x_tup5, and_true, true_and])))
  generalize (if (dg 18446744073709551616 D).getD (n - 1) 0 ≤ o.getD (m + n) 0 then 18446744073709551616 - 1 else (o.getD (m + n) 0 * 18446744073709551616 + o.getD (m + n - 1) 0) / (dg 18446744073709551616 D).getD (n - 1) 0) = g at *
  clear P1 P2 g1 g2 g3 hgt hyt hy0
  -- what is multiplied
  obtain ⟨Gd, hGd⟩ : ∃ Gd, Gd = H.only v := ⟨_, rfl⟩
  have hd0 : Gd.le H := by rw [hGd]; exact only_le _ _
  have hvd : Nu .u64 Gd v (dg 18446744073709551616 D) := by rw [hGd]; exact k11.only
  have gd4 : Gd b4 = none := by rw [hGd]; exact only_none hv4
  have gd6 : Gd b6 = none := by rw [hGd]; exact only_none hv6
  refine o_mkW .u64 (n + 1) (by with_unfolding_all rfl) (by with_unfolding_all rfl) rfl rfl rfl (by omega) ?_
  intro b8 cs8 H8 hb8 hle8 e8 w8
  have gd8 : Gd b8 = none := by rw [hGd]; exact only_none' hb8
  have gg8 : G0 b8 = none := by
    cases e : G0 b8 with
    | none => rfl
    | some ob => have := k12 _ _ e; rw [hb8] at this; cases this
  have n48 : b4 ≠ b8 := fun e => by have := k9.hG; rw [e, hb8] at this; cases this
  have n68 : b6 ≠ b8 := fun e => by have := k10.hG; rw [e, hb8] at this; cases this
  have H84 := put_keep e8 n48
  have H86 := put_keep e8 n68
  have hle08 : G0.le H8 := GH.le_trans k12 hle8
  have hld8 : Gd.le H8 := GH.le_trans hd0 hle8
  clear e8 hle8
  (repeat' (first | (with_reducible refine i_ops ?_; first | (refine g_mv ?_; refine s_mv ?_) | refine o_nil ?_ | (refine g_len ?_; first | refine s_lenN ?_ | refine s_lenB ?_ | refine s_pure ?_) | (refine g_idx ?_; first | (refine s_idxN ?_; intro p hp; try simp only [Int.toNat_natCast] at hp) | (refine s_idxOB ?_; intro p hp hpw) | (refine s_idxB ?_; intro p hp)) | (refine g_slc ?_; ((first | refine s_slcB ?_ | refine s_slcB01 ?_ | refine s_slcB10 ?_); intro us hus hbs)) | (refine g_pure ?_; first | refine s_nadd ?_ | refine s_naddc ?_ | refine s_nsubc ?_ | refine s_wsubc ?_ | refine s_pure ?_ | refine s_saddB ?_) | (refine g_hload ?_; refine s_hloadP ?_) | (refine g_hstore ?_; (refine s_hstoreB ?_; intro G' hle ho hkp))) | (with_reducible refine i_vc ?_; first | refine v_seq ?_ | refine v_ops ?_ | (refine g_cond ?_; first | refine s_cond_t ?_ | refine s_cond_f ?_) | refine v_block ?_ | refine v_skip ?_ | refine v_exit ?_ | refine v_ret ?_ | refine s_drawl ?_ | refine v_draw0 ?_) | (with_reducible refine i_plan ?_; first | refine p_done ?_ | refine s_pre ?_ | refine s_preN ?_ | refine s_ag_t ?_ | refine s_ag_f ?_ | refine s_alt ?_ | refine p_alt ?_ ?_) | (with_reducible first | refine n_then ?_ | refine r_then ?_ | refine e_then ?_ | refine n_block ?_ | refine r_block ?_ | refine e_block_eq (by with_unfolding_all rfl) ?_ | refine e_block_ne (by with_unfolding_all rfl) ?_ | (refine g_stand ?_; first | refine s_stand ?_ | refine s_standL ?_)) | ((with_reducible first | refine s_cond_c ?_ ?_) <;> intro hb <;> rw [hb] <;> (try simp only [decide_eq_true_eq, decide_eq_false_iff_not, beq_iff_eq, bne_iff_ne, beq_eq_false_iff_ne, bne_eq_false_iff_eq, ne_eq, Int.not_lt, Int.not_le, gt_iff_lt, ge_iff_le, Bool.not_eq_true', Bool.not_eq_false'] at hb)) | ((with_reducible first | refine s_ret ?_ | refine s_normal ?_); try simp only [x_tup0, x_tup1, x_tup2, x_tup3, x_tup4, x_tup5, and_true, true_and])))
  refine o_pure (v := .slice (some ⟨b8, 0, none⟩) n n) (by with_unfolding_all rfl) (trimS_pure (w8.nu' (n := n + 1) (by simp)) (by simp [lenS])) ?_
  have w8t := w8.take n (by simp)
  rw [List.take_replicate, Nat.min_eq_left (by omega)] at w8t
  have hv8 := hvd.le hld8
  (repeat' (first | (with_reducible refine i_ops ?_; first | (refine g_mv ?_; refine s_mv ?_) | refine o_nil ?_ | (refine g_len ?_; first | refine s_lenN ?_ | refine s_lenB ?_ | refine s_pure ?_) | (refine g_idx ?_; first | (refine s_idxN ?_; intro p hp; try simp only [Int.toNat_natCast] at hp) | (refine s_idxOB ?_; intro p hp hpw) | (refine s_idxB ?_; intro p hp)) | (refine g_slc ?_; ((first | refine s_slcB ?_ | refine s_slcB01 ?_ | refine s_slcB10 ?_); intro us hus hbs)) | (refine g_pure ?_; first | refine s_nadd ?_ | refine s_naddc ?_ | refine s_nsubc ?_ | refine s_wsubc ?_ | refine s_pure ?_ | refine s_saddB ?_) | (refine g_hload ?_; refine s_hloadP ?_) | (refine g_hstore ?_; (refine s_hstoreB ?_; intro G' hle ho hkp))) | (with_reducible refine i_vc ?_; first | refine v_seq ?_ | refine v_ops ?_ | (refine g_cond ?_; first | refine s_cond_t ?_ | refine s_cond_f ?_) | refine v_block ?_ | refine v_skip ?_ | refine v_exit ?_ | refine v_ret ?_ | refine s_drawl ?_ | refine v_draw0 ?_) | (with_reducible refine i_plan ?_; first | refine p_done ?_ | refine s_pre ?_ | refine s_preN ?_ | refine s_ag_t ?_ | refine s_ag_f ?_ | refine s_alt ?_ | refine p_alt ?_ ?_) | (with_reducible first | refine n_then ?_ | refine r_then ?_ | refine e_then ?_ | refine n_block ?_ | refine r_block ?_ | refine e_block_eq (by with_unfolding_all rfl) ?_ | refine e_block_ne (by with_unfolding_all rfl) ?_ | (refine g_stand ?_; first | refine s_stand ?_ | refine s_standL ?_)) | ((with_reducible first | refine s_cond_c ?_ ?_) <;> intro hb <;> rw [hb] <;> (try simp only [decide_eq_true_eq, decide_eq_false_iff_not, beq_iff_eq, bne_iff_ne, beq_eq_false_iff_ne, bne_eq_false_iff_eq, ne_eq, Int.not_lt, Int.not_le, gt_iff_lt, ge_iff_le, Bool.not_eq_true', Bool.not_eq_false'] at hb)) | ((with_reducible first | refine s_ret ?_ | refine s_normal ?_); try simp only [x_tup0, x_tup1, x_tup2, x_tup3, x_tup4, x_tup5, and_true, true_and])))
  refine o_callc (by with_unfolding_all rfl) (plus v b8 0 n g cs8 _ _ (List.replicate n 0) (dg 18446744073709551616 D) Gd H8 hld8 gd8 w8t (by simp) hvd hn hgl (Dl.rep _ (by decide)) dD) ?_
  rintro _ H9 ⟨c, cs9, zs, rfl, q1, q2, q3, q4, q5, q6, q7⟩
  rw [val_rep, vD, Nat.zero_add] at q7
  have w9 := w8.back0 q4 (by rw [q5]; exact q3) (by simp; omega)
  rw [q5, List.drop_replicate, show n + 1 - n = 1 by omega] at w9
  have hle09 : G0.le H9 := le_eq q2 hle08 gg8
  have hld9 : Gd.le H9 := le_eq q2 hld8 gd8
  have H94 := (put_keep q2 n48).trans H84
  have H96 := (put_keep q2 n68).trans H86
  clear w8 w8t q4 q3 hv8 q2 hle08 hld8 H84 H86
  (repeat' (first | (with_reducible refine i_ops ?_; first | (refine g_mv ?_; refine s_mv ?_) | refine o_nil ?_ | (refine g_len ?_; first | refine s_lenN ?_ | refine s_lenB ?_ | refine s_pure ?_) | (refine g_idx ?_; first | (refine s_idxN ?_; intro p hp; try simp only [Int.toNat_natCast] at hp) | (refine s_idxOB ?_; intro p hp hpw) | (refine s_idxB ?_; intro p hp)) | (refine g_slc ?_; ((first | refine s_slcB ?_ | refine s_slcB01 ?_ | refine s_slcB10 ?_); intro us hus hbs)) | (refine g_pure ?_; first | refine s_nadd ?_ | refine s_naddc ?_ | refine s_nsubc ?_ | refine s_wsubc ?_ | refine s_pure ?_ | refine s_saddB ?_) | (refine g_hload ?_; refine s_hloadP ?_) | (refine g_hstore ?_; (refine s_hstoreB ?_; intro G' hle ho hkp))) | (with_reducible refine i_vc ?_; first | refine v_seq ?_ | refine v_ops ?_ | (refine g_cond ?_; first | refine s_cond_t ?_ | refine s_cond_f ?_) | refine v_block ?_ | refine v_skip ?_ | refine v_exit ?_ | refine v_ret ?_ | refine s_drawl ?_ | refine v_draw0 ?_) | (with_reducible refine i_plan ?_; first | refine p_done ?_ | refine s_pre ?_ | refine s_preN ?_ | refine s_ag_t ?_ | refine s_ag_f ?_ | refine s_alt ?_ | refine p_alt ?_ ?_) | (with_reducible first | refine n_then ?_ | refine r_then ?_ | refine e_then ?_ | refine n_block ?_ | refine r_block ?_ | refine e_block_eq (by with_unfolding_all rfl) ?_ | refine e_block_ne (by with_unfolding_all rfl) ?_ | (refine g_stand ?_; first | refine s_stand ?_ | refine s_standL ?_)) | ((with_reducible first | refine s_cond_c ?_ ?_) <;> intro hb <;> rw [hb] <;> (try simp only [decide_eq_true_eq, decide_eq_false_iff_not, beq_iff_eq, bne_iff_ne, beq_eq_false_iff_ne, bne_eq_false_iff_eq, ne_eq, Int.not_lt, Int.not_le, gt_iff_lt, ge_iff_le, Bool.not_eq_true', Bool.not_eq_false'] at hb)) | ((with_reducible first | refine s_ret ?_ | refine s_normal ?_); try simp only [x_tup0, x_tup1, x_tup2, x_tup3, x_tup4, x_tup5, and_true, true_and])))
  refine o_idxW (i := n) (by with_unfolding_all rfl) (by with_unfolding_all rfl) (by omega) ?_
  have hlz : (zs ++ List.replicate 1 0).length = n + 1 := by simp [q5]
  refine o_hstoreW (k := .u64) (i := n) (by with_unfolding_all rfl) w9 (by omega) (by with_unfolding_all rfl) ?_
  intro cs10 H10 e10 _ w10
  have hset : (zs ++ List.replicate 1 0).set n c = zs ++ [c] := by
    rw [List.set_append_right _ _ (by omega), q5, Nat.sub_self]; rfl
  rw [hset] at w10
  have hp0 : val 18446744073709551616 (zs ++ [c]) = D * g := by rw [val_push, q5, q7]
  have hpd0 : Dl 18446744073709551616 (zs ++ [c]) := q6.push q1
  have hpl0 : (zs ++ [c]).length = n + 1 := by simp [q5]
  have hle10 : G0.le H10 := le_eq e10 hle09 gg8
  have hld10 : Gd.le H10 := le_eq e10 hld9 gd8
  have H104 := (put_keep e10 n48).trans H94
  have H106 := (put_keep e10 n68).trans H96
  clear w9 e10 hle09 hld9 H94 H96 q7 q1 hset hlz
  generalize zs ++ [c] = p0 at *
  (repeat' (first | (with_reducible refine i_ops ?_; first | (refine g_mv ?_; refine s_mv ?_) | refine o_nil ?_ | (refine g_len ?_; first | refine s_lenN ?_ | refine s_lenB ?_ | refine s_pure ?_) | (refine g_idx ?_; first | (refine s_idxN ?_; intro p hp; try simp only [Int.toNat_natCast] at hp) | (refine s_idxOB ?_; intro p hp hpw) | (refine s_idxB ?_; intro p hp)) | (refine g_slc ?_; ((first | refine s_slcB ?_ | refine s_slcB01 ?_ | refine s_slcB10 ?_); intro us hus hbs)) | (refine g_pure ?_; first | refine s_nadd ?_ | refine s_naddc ?_ | refine s_nsubc ?_ | refine s_wsubc ?_ | refine s_pure ?_ | refine s_saddB ?_) | (refine g_hload ?_; refine s_hloadP ?_) | (refine g_hstore ?_; (refine s_hstoreB ?_; intro G' hle ho hkp))) | (with_reducible refine i_vc ?_; first | refine v_seq ?_ | refine v_ops ?_ | (refine g_cond ?_; first | refine s_cond_t ?_ | refine s_cond_f ?_) | refine v_block ?_ | refine v_skip ?_ | refine v_exit ?_ | refine v_ret ?_ | refine s_drawl ?_ | refine v_draw0 ?_) | (with_reducible refine i_plan ?_; first | refine p_done ?_ | refine s_pre ?_ | refine s_preN ?_ | refine s_ag_t ?_ | refine s_ag_f ?_ | refine s_alt ?_ | refine p_alt ?_ ?_) | (with_reducible first | refine n_then ?_ | refine r_then ?_ | refine e_then ?_ | refine n_block ?_ | refine r_block ?_ | refine e_block_eq (by with_unfolding_all rfl) ?_ | refine e_block_ne (by with_unfolding_all rfl) ?_ | (refine g_stand ?_; first | refine s_stand ?_ | refine s_standL ?_)) | ((with_reducible first | refine s_cond_c ?_ ?_) <;> intro hb <;> rw [hb] <;> (try simp only [decide_eq_true_eq, decide_eq_false_iff_not, beq_iff_eq, bne_iff_ne, beq_eq_false_iff_ne, bne_eq_false_iff_eq, ne_eq, Int.not_lt, Int.not_le, gt_iff_lt, ge_iff_le, Bool.not_eq_true', Bool.not_eq_false'] at hb)) | ((with_reducible first | refine s_ret ?_ | refine s_normal ?_); try simp only [x_tup0, x_tup1, x_tup2, x_tup3, x_tup4, x_tup5, and_true, true_and])))
  generalize hQ2 : thenQ (vc Try.prog E41 _ _) _ = Q2
  refine v_loopX (α := Nat × List Nat × Array Value × GH) (fun x => X / D ≤ x.1 ∧ x.1 < 18446744073709551616 ∧ x.2.1.length = n + 1 ∧ Dl 18446744073709551616 x.2.1 ∧ val 18446744073709551616 x.2.1 = D * x.1 ∧ Win .u64 x.2.2.2 b8 0 x.2.2.1 _ (0, 0) x.2.1 ∧ x.2.2.2 b4 = H b4 ∧ x.2.2.2 b6 = H b6 ∧ Gd.le x.2.2.2 ∧ G0.le x.2.2.2)
    (fun x => [(9, iv .u64 s), (10, .slice (some ⟨b4, 0, none⟩) la la), (11, v), (12, .int .i64 n), (13, .slice (some ⟨b6, 0, none⟩) lq lq), (14, .int .i64 m), (15, iv .u64 x.1), (16, .slice (some ⟨b8, 0, none⟩) (n + 1) (n + 1))]) (fun _ => []) (fun x => x.2.2.2) (fun x => x.1) (g, p0, cs10, H10)
    ⟨hge, hgl, hpl0, hpd0, hp0, w10, H104, H106, hld10, hle10⟩ (by refine ⟨SL.get_fn (by with_unfolding_all rfl), SL.get_fn (by with_unfolding_all rfl), SL.get_fn (by with_unfolding_all rfl), SL.get_fn (by with_unfolding_all rfl), SL.get_fn (by with_unfolding_all rfl), SL.get_fn (by with_unfolding_all rfl), SL.get_fn (by with_unfolding_all rfl), SL.get_fn (by with_unfolding_all rfl), trivial⟩) trivial rfl ?_
  clear hge hgl hpl0 hpd0 hp0 w10 H104 H106 hld10 hle10
  rintro ⟨g', p, cs, I⟩ sl3 ll3 ⟨m1, m2, m3, m4, m5, m6, m7, m8, m9, m10⟩
  dsimp only at m1 m2 m3 m4 m5 m6 m7 m8 m9 m10
  dsimp only [SL.sets, AL.sets]
  have ww := w4w I m7
  have hv3 := hvd.le m9
  (repeat' (first | (with_reducible refine i_ops ?_; first | (refine g_mv ?_; refine s_mv ?_) | refine o_nil ?_ | (refine g_len ?_; first | refine s_lenN ?_ | refine s_lenB ?_ | refine s_pure ?_) | (refine g_idx ?_; first | (refine s_idxN ?_; intro p hp; try simp only [Int.toNat_natCast] at hp) | (refine s_idxOB ?_; intro p hp hpw) | (refine s_idxB ?_; intro p hp)) | (refine g_slc ?_; ((first | refine s_slcB ?_ | refine s_slcB01 ?_ | refine s_slcB10 ?_); intro us hus hbs)) | (refine g_pure ?_; first | refine s_nadd ?_ | refine s_naddc ?_ | refine s_nsubc ?_ | refine s_wsubc ?_ | refine s_pure ?_ | refine s_saddB ?_) | (refine g_hload ?_; refine s_hloadP ?_) | (refine g_hstore ?_; (refine s_hstoreB ?_; intro G' hle ho hkp))) | (with_reducible refine i_vc ?_; first | refine v_seq ?_ | refine v_ops ?_ | (refine g_cond ?_; first | refine s_cond_t ?_ | refine s_cond_f ?_) | refine v_block ?_ | refine v_skip ?_ | refine v_exit ?_ | refine v_ret ?_ | refine s_drawl ?_ | refine v_draw0 ?_) | (with_reducible refine i_plan ?_; first | refine p_done ?_ | refine s_pre ?_ | refine s_preN ?_ | refine s_ag_t ?_ | refine s_ag_f ?_ | refine s_alt ?_ | refine p_alt ?_ ?_) | (with_reducible first | refine n_then ?_ | refine r_then ?_ | refine e_then ?_ | refine n_block ?_ | refine r_block ?_ | refine e_block_eq (by with_unfolding_all rfl) ?_ | refine e_block_ne (by with_unfolding_all rfl) ?_ | (refine g_stand ?_; first | refine s_stand ?_ | refine s_standL ?_)) | ((with_reducible first | refine s_cond_c ?_ ?_) <;> intro hb <;> rw [hb] <;> (try simp only [decide_eq_true_eq, decide_eq_false_iff_not, beq_iff_eq, bne_iff_ne, beq_eq_false_iff_ne, bne_eq_false_iff_eq, ne_eq, Int.not_lt, Int.not_le, gt_iff_lt, ge_iff_le, Bool.not_eq_true', Bool.not_eq_false'] at hb)) | ((with_reducible first | refine s_ret ?_ | refine s_normal ?_); try simp only [x_tup0, x_tup1, x_tup2, x_tup3, x_tup4, x_tup5, and_true, true_and])))
  refine o_slcW (i := m) (j := m + n + 1) (by with_unfolding_all rfl) (by with_unfolding_all rfl) (by with_unfolding_all rfl) (by with_unfolding_all rfl) (by omega) (by omega) ?_
  intro i' hi1 hi2
  have hi' : i' = m := hi2 (by omega)
  subst hi'
  rw [show i' + n + 1 - i' = n + 1 by omega]
  have t1 := trim_nu (m6.nu' m3) m4
  have t2 := trim_nu (ww.nu' hwl) hwd
  rw [m5] at t1
  rw [hX] at t2
  (repeat' (first | (with_reducible refine i_ops ?_; first | (refine g_mv ?_; refine s_mv ?_) | refine o_nil ?_ | (refine g_len ?_; first | refine s_lenN ?_ | refine s_lenB ?_ | refine s_pure ?_) | (refine g_idx ?_; first | (refine s_idxN ?_; intro p hp; try simp only [Int.toNat_natCast] at hp) | (refine s_idxOB ?_; intro p hp hpw) | (refine s_idxB ?_; intro p hp)) | (refine g_slc ?_; ((first | refine s_slcB ?_ | refine s_slcB01 ?_ | refine s_slcB10 ?_); intro us hus hbs)) | (refine g_pure ?_; first | refine s_nadd ?_ | refine s_naddc ?_ | refine s_nsubc ?_ | refine s_wsubc ?_ | refine s_pure ?_ | refine s_saddB ?_) | (refine g_hload ?_; refine s_hloadP ?_) | (refine g_hstore ?_; (refine s_hstoreB ?_; intro G' hle ho hkp)) | refine o_callp (by with_unfolding_all rfl) (by first | exact trim (m6.nu' m3) m4 | exact trim (ww.nu' hwl) hwd | exact compare36 t1 t2) ?_ | (refine o_callg (by with_unfolding_all rfl) (by first | exact trim (m6.nu' m3) m4 | exact trim (ww.nu' hwl) hwd | exact compare36 t1 t2) ?_; intro G' hle)) | (with_reducible refine i_vc ?_; first | refine v_seq ?_ | refine v_ops ?_ | (refine g_cond ?_; first | refine s_cond_t ?_ | refine s_cond_f ?_) | refine v_block ?_ | refine v_skip ?_ | refine v_exit ?_ | refine v_ret ?_ | refine s_drawl ?_ | refine v_draw0 ?_) | (with_reducible refine i_plan ?_; first | refine p_done ?_ | refine s_pre ?_ | refine s_preN ?_ | refine s_ag_t ?_ | refine s_ag_f ?_ | refine p_callp (by with_unfolding_all rfl) (by first | exact trim (m6.nu' m3) m4 | exact trim (ww.nu' hwl) hwd | exact compare36 t1 t2) (by first | assumption | exact GH.le_refl _ | ((repeat (first | exact GH.le_refl _ | assumption | refine GH.le_trans ?_ (by assumption))); first | done | fail)) ?_ p_no | (refine p_callg (by with_unfolding_all rfl) (by first | exact trim (m6.nu' m3) m4 | exact trim (ww.nu' hwl) hwd | exact compare36 t1 t2) (by first | assumption | exact GH.le_refl _ | ((repeat (first | exact GH.le_refl _ | assumption | refine GH.le_trans ?_ (by assumption))); first | done | fail)) ?_ p_no; intro G' hle) | refine s_alt ?_ | refine p_alt ?_ ?_) | (with_reducible first | refine n_then ?_ | refine r_then ?_ | refine e_then ?_ | refine n_block ?_ | refine r_block ?_ | refine e_block_eq (by with_unfolding_all rfl) ?_ | refine e_block_ne (by with_unfolding_all rfl) ?_ | (refine g_stand ?_; first | refine s_stand ?_ | refine s_standL ?_)) | ((with_reducible first | refine s_cond_c ?_ ?_) <;> intro hb <;> rw [hb] <;> (try simp only [decide_eq_true_eq, decide_eq_false_iff_not, beq_iff_eq, bne_iff_ne, beq_eq_false_iff_ne, bne_eq_false_iff_eq, ne_eq, Int.not_lt, Int.not_le, gt_iff_lt, ge_iff_le, Bool.not_eq_true', Bool.not_eq_false'] at hb)) | ((with_reducible first | refine s_ret ?_ | refine s_normal ?_); try simp only [x_tup0, x_tup1, x_tup2, x_tup3, x_tup4, x_tup5, and_true, true_and])))
  · have hlt := cmp_pos.1 hb
    have hg0 : 0 < g' := by
      rcases Nat.eq_zero_or_pos g' with h | h
      · rw [h, Nat.mul_zero] at hlt; omega
      · exact h
    have md := mul_dec (y := D) hg0
    have hqd : X / D < g' := (Nat.div_lt_iff_lt_mul hD).2 (by rw [Nat.mul_comm]; exact hlt)
    refine o_callc (by with_unfolding_all rfl) (less v b8 0 (n + 1) cs _ _ p (dg 18446744073709551616 D) Gd I m9 gd8 m6 m3 hvd m4 dD) ?_
    rintro _ I2 ⟨c2, cs2, p2, rfl, r1, r2, r3, r4, r5, r6, r7⟩
    rw [List.take_of_length_le (show (dg 18446744073709551616 D).length ≤ n + 1 by omega), vD, m5] at r7
    have hp2 : val 18446744073709551616 p2 = D * (g' - 1) := by
      have h1 := val_lt r6
      rw [r5] at h1
      rw [Nat.mul_comm D (g' - 1)]
      rw [Nat.mul_comm D g'] at r7
      have h2 : c2 = 0 ∨ c2 = 1 := by omega
      rcases h2 with rfl | rfl
      · omega
      · exfalso; rw [Nat.mul_one] at r7
        have : D ≤ g' * D := Nat.le_mul_of_pos_left D hg0
        omega
    (repeat' (first | (with_reducible refine i_ops ?_; first | (refine g_mv ?_; refine s_mv ?_) | refine o_nil ?_ | (refine g_len ?_; first | refine s_lenN ?_ | refine s_lenB ?_ | refine s_pure ?_) | (refine g_idx ?_; first | (refine s_idxN ?_; intro p hp; try simp only [Int.toNat_natCast] at hp) | (refine s_idxOB ?_; intro p hp hpw) | (refine s_idxB ?_; intro p hp)) | (refine g_slc ?_; ((first | refine s_slcB ?_ | refine s_slcB01 ?_ | refine s_slcB10 ?_); intro us hus hbs)) | (refine g_pure ?_; first | refine s_nadd ?_ | refine s_naddc ?_ | refine s_nsubc ?_ | refine s_wsubc ?_ | refine s_pure ?_ | refine s_saddB ?_) | (refine g_hload ?_; refine s_hloadP ?_) | (refine g_hstore ?_; (refine s_hstoreB ?_; intro G' hle ho hkp))) | (with_reducible refine i_vc ?_; first | refine v_seq ?_ | refine v_ops ?_ | (refine g_cond ?_; first | refine s_cond_t ?_ | refine s_cond_f ?_) | refine v_block ?_ | refine v_skip ?_ | refine v_exit ?_ | refine v_ret ?_ | refine s_drawl ?_ | refine v_draw0 ?_) | (with_reducible refine i_plan ?_; first | refine p_done ?_ | refine s_pre ?_ | refine s_preN ?_ | refine s_ag_t ?_ | refine s_ag_f ?_ | refine s_alt ?_ | refine p_alt ?_ ?_) | (with_reducible first | refine n_then ?_ | refine r_then ?_ | refine e_then ?_ | refine n_block ?_ | refine r_block ?_ | refine e_block_eq (by with_unfolding_all rfl) ?_ | refine e_block_ne (by with_unfolding_all rfl) ?_ | (refine g_stand ?_; first | refine s_stand ?_ | refine s_standL ?_)) | ((with_reducible first | refine s_cond_c ?_ ?_) <;> intro hb <;> rw [hb] <;> (try simp only [decide_eq_true_eq, decide_eq_false_iff_not, beq_iff_eq, bne_iff_ne, beq_eq_false_iff_ne, bne_eq_false_iff_eq, ne_eq, Int.not_lt, Int.not_le, gt_iff_lt, ge_iff_le, Bool.not_eq_true', Bool.not_eq_false'] at hb)) | ((with_reducible first | refine s_ret ?_ | refine s_normal ?_); try simp only [x_tup0, x_tup1, x_tup2, x_tup3, x_tup4, x_tup5, and_true, true_and])))
    rw [show (g' + 18446744073709551616 - 1) % 18446744073709551616 = g' - 1 by omega]
    exact ⟨g' - 1, by omega, (g' - 1, p2, cs2, I2), rfl, ⟨by dsimp only; omega, by dsimp only; omega, r5, r6, hp2, r4, (put_keep r2 n48).trans m7, (put_keep r2 n68).trans m8, le_eq r2 m9 gd8, le_eq r2 m10 gg8⟩, (by refine ⟨SL.get_fn (by with_unfolding_all rfl), SL.get_fn (by with_unfolding_all rfl), SL.get_fn (by with_unfolding_all rfl), SL.get_fn (by with_unfolding_all rfl), SL.get_fn (by with_unfolding_all rfl), SL.get_fn (by with_unfolding_all rfl), SL.get_fn (by with_unfolding_all rfl), SL.get_fn (by with_unfolding_all rfl), trivial⟩), trivial, rfl⟩
  · have hle : D * g' ≤ X := by
      rcases Nat.lt_or_ge X (D * g') with h | h
      · have := cmp_pos.2 h; omega
      · exact h
    have hge : g' ≤ X / D := (Nat.le_div_iff_mul_le hD).2 (by rw [Nat.mul_comm]; exact hle)
    have hgq : g' = X / D := by omega
    have hdm := Nat.div_add_mod X D
    rw [← hgq] at hdm
    have hml := Nat.mod_lt X hD
    subst hQ2
    refine n_then ?_
    clear t1 t2
    (repeat' (first | (with_reducible refine i_ops ?_; first | (refine g_mv ?_; refine s_mv ?_) | refine o_nil ?_ | (refine g_len ?_; first | refine s_lenN ?_ | refine s_lenB ?_ | refine s_pure ?_) | (refine g_idx ?_; first | (refine s_idxN ?_; intro p hp; try simp only [Int.toNat_natCast] at hp) | (refine s_idxOB ?_; intro p hp hpw) | (refine s_idxB ?_; intro p hp)) | (refine g_slc ?_; ((first | refine s_slcB ?_ | refine s_slcB01 ?_ | refine s_slcB10 ?_); intro us hus hbs)) | (refine g_pure ?_; first | refine s_nadd ?_ | refine s_naddc ?_ | refine s_nsubc ?_ | refine s_wsubc ?_ | refine s_pure ?_ | refine s_saddB ?_) | (refine g_hload ?_; refine s_hloadP ?_) | (refine g_hstore ?_; (refine s_hstoreB ?_; intro G' hle ho hkp))) | (with_reducible refine i_vc ?_; first | refine v_seq ?_ | refine v_ops ?_ | (refine g_cond ?_; first | refine s_cond_t ?_ | refine s_cond_f ?_) | refine v_block ?_ | refine v_skip ?_ | refine v_exit ?_ | refine v_ret ?_ | refine s_drawl ?_ | refine v_draw0 ?_) | (with_reducible refine i_plan ?_; first | refine p_done ?_ | refine s_pre ?_ | refine s_preN ?_ | refine s_ag_t ?_ | refine s_ag_f ?_ | refine s_alt ?_ | refine p_alt ?_ ?_) | (with_reducible first | refine n_then ?_ | refine r_then ?_ | refine e_then ?_ | refine n_block ?_ | refine r_block ?_ | refine e_block_eq (by with_unfolding_all rfl) ?_ | refine e_block_ne (by with_unfolding_all rfl) ?_ | (refine g_stand ?_; first | refine s_stand ?_ | refine s_standL ?_)) | ((with_reducible first | refine s_cond_c ?_ ?_) <;> intro hb <;> rw [hb] <;> (try simp only [decide_eq_true_eq, decide_eq_false_iff_not, beq_iff_eq, bne_iff_ne, beq_eq_false_iff_ne, bne_eq_false_iff_eq, ne_eq, Int.not_lt, Int.not_le, gt_iff_lt, ge_iff_le, Bool.not_eq_true', Bool.not_eq_false'] at hb)) | ((with_reducible first | refine s_ret ?_ | refine s_normal ?_); try simp only [x_tup0, x_tup1, x_tup2, x_tup3, x_tup4, x_tup5, and_true, true_and])))
    refine o_slcW (i := i') (j := i' + n + 1) (by with_unfolding_all rfl) (by with_unfolding_all rfl) (by with_unfolding_all rfl) (by with_unfolding_all rfl) (by omega) (by omega) ?_
    intro i2 hj1 hj2
    have hi2' : i2 = i' := hj2 (by omega)
    subst hi2'
    rw [show i2 + n + 1 - i2 = n + 1 by omega]
    obtain ⟨Gp, hGp⟩ : ∃ Gp, Gp = I.only (.slice (some ⟨b8, 0, none⟩) (n + 1) (n + 1)) := ⟨_, rfl⟩
    have hpn : Nu .u64 Gp (.slice (some ⟨b8, 0, none⟩) (n + 1) (n + 1)) p := by rw [hGp]; exact (m6.nu' m3).only
    have gp4 : Gp b4 = none := by rw [hGp]; exact only_none (by simp only [blkS, ne_eq, Option.some.injEq]; exact fun e => n48 e.symm)
    have gpl : Gp.le I := by rw [hGp]; exact only_le _ _
    (repeat' (first | (with_reducible refine i_ops ?_; first | (refine g_mv ?_; refine s_mv ?_) | refine o_nil ?_ | (refine g_len ?_; first | refine s_lenN ?_ | refine s_lenB ?_ | refine s_pure ?_) | (refine g_idx ?_; first | (refine s_idxN ?_; intro p hp; try simp only [Int.toNat_natCast] at hp) | (refine s_idxOB ?_; intro p hp hpw) | (refine s_idxB ?_; intro p hp)) | (refine g_slc ?_; ((first | refine s_slcB ?_ | refine s_slcB01 ?_ | refine s_slcB10 ?_); intro us hus hbs)) | (refine g_pure ?_; first | refine s_nadd ?_ | refine s_naddc ?_ | refine s_nsubc ?_ | refine s_wsubc ?_ | refine s_pure ?_ | refine s_saddB ?_) | (refine g_hload ?_; refine s_hloadP ?_) | (refine g_hstore ?_; (refine s_hstoreB ?_; intro G' hle ho hkp))) | (with_reducible refine i_vc ?_; first | refine v_seq ?_ | refine v_ops ?_ | (refine g_cond ?_; first | refine s_cond_t ?_ | refine s_cond_f ?_) | refine v_block ?_ | refine v_skip ?_ | refine v_exit ?_ | refine v_ret ?_ | refine s_drawl ?_ | refine v_draw0 ?_) | (with_reducible refine i_plan ?_; first | refine p_done ?_ | refine s_pre ?_ | refine s_preN ?_ | refine s_ag_t ?_ | refine s_ag_f ?_ | refine s_alt ?_ | refine p_alt ?_ ?_) | (with_reducible first | refine n_then ?_ | refine r_then ?_ | refine e_then ?_ | refine n_block ?_ | refine r_block ?_ | refine e_block_eq (by with_unfolding_all rfl) ?_ | refine e_block_ne (by with_unfolding_all rfl) ?_ | (refine g_stand ?_; first | refine s_stand ?_ | refine s_standL ?_)) | ((with_reducible first | refine s_cond_c ?_ ?_) <;> intro hb <;> rw [hb] <;> (try simp only [decide_eq_true_eq, decide_eq_false_iff_not, beq_iff_eq, bne_iff_ne, beq_eq_false_iff_ne, bne_eq_false_iff_eq, ne_eq, Int.not_lt, Int.not_le, gt_iff_lt, ge_iff_le, Bool.not_eq_true', Bool.not_eq_false'] at hb)) | ((with_reducible first | refine s_ret ?_ | refine s_normal ?_); try simp only [x_tup0, x_tup1, x_tup2, x_tup3, x_tup4, x_tup5, and_true, true_and])))
    refine o_callc (by with_unfolding_all rfl) (less (.slice (some ⟨b8, 0, none⟩) (n + 1) (n + 1)) b4 (0 + i2) (n + 1) c4 e4 (0, 0) ((o.drop i2).take (n + 1)) p Gp I gpl gp4 ww hwl hpn hwd m4) ?_
    rintro _ I3 ⟨c3, cs3, zs, rfl, s1, s2, s3, s4, s5, s6, s7⟩
    rw [List.take_of_length_le (show p.length ≤ n + 1 by omega), m5, hX] at s7
    have hzv : val 18446744073709551616 zs = X % D := by
      have h1 := val_lt s6
      rw [s5] at h1
      have h2 : c3 = 0 ∨ c3 = 1 := by omega
      rcases h2 with rfl | rfl
      · omega
      · exfalso; rw [Nat.mul_one] at s7; omega
    have hzt : zs.getD n 0 = 0 := top_zero s6 s5 (by omega)
    have wb := (k9.keep m7).back s4 (by rw [s5]; exact s3) (by omega)
    rw [s5] at wb
    have ol : (o.take i2 ++ zs).length = i2 + (n + 1) := by rw [List.length_append, List.length_take, s5, Nat.min_eq_left (by omega)]
    have od : (o.take i2 ++ zs ++ o.drop (i2 + (n + 1))).drop i2 = zs ++ o.drop (i2 + (n + 1)) := by
      rw [List.append_assoc, List.drop_append_of_le_length (by rw [List.length_take]; omega), List.drop_of_length_le (show (o.take i2).length ≤ i2 by rw [List.length_take]; omega), List.nil_append]
    have ot : (o.take i2 ++ zs ++ o.drop (i2 + (n + 1))).take i2 = o.take i2 := by
      rw [List.append_assoc, List.take_append_of_le_length (by rw [List.length_take]; omega), List.take_of_length_le (by rw [List.length_take]; omega)]
    have odv : val 18446744073709551616 ((o.take i2 ++ zs ++ o.drop (i2 + (n + 1))).drop i2) = X % D := by
      rw [od, val_append, val_zero (xs := o.drop (i2 + (n + 1))) (fun j => by rw [getD_drop]; exact k6 _ (by omega)), Nat.mul_zero, Nat.add_zero, hzv]
    have oz : ∀ j, i2 + n ≤ j → (o.take i2 ++ zs ++ o.drop (i2 + (n + 1))).getD j 0 = 0 := fun j hj => by
      by_cases h1 : j < i2 + (n + 1)
      · rw [getD_appL _ _ (by omega), getD_appR _ _ (by rw [List.length_take]; omega), List.length_take, Nat.min_eq_left (by omega), show j - i2 = n by omega]; exact hzt
      · rw [getD_appR _ _ (by omega), ol, getD_drop, show i2 + (n + 1) + (j - (i2 + (n + 1))) = j by omega]; exact k6 j (by omega)
    have oll : (o.take i2 ++ zs ++ o.drop (i2 + (n + 1))).length = la := by rw [List.length_append, ol, List.length_drop]; omega
    have oD : Dl 18446744073709551616 (o.take i2 ++ zs ++ o.drop (i2 + (n + 1))) := ((k3.take _).app s6).app (k3.drop _)
    have ov : val 18446744073709551616 (o.take i2 ++ zs ++ o.drop (i2 + (n + 1))) = val 18446744073709551616 (o.take i2) + 18446744073709551616 ^ i2 * (X % D) := by
      rw [val_split 18446744073709551616 (o.take i2 ++ zs ++ o.drop (i2 + (n + 1))) i2, ot, odv]
    generalize o.take i2 ++ zs ++ o.drop (i2 + (n + 1)) = o' at *
    have w63 := k10.keep ((put_keep s2 (Ne.symm h46)).trans m8)
    have hle3 : G0.le I3 := le_eq s2 m10 hb4
    have hld3 : Gd.le I3 := le_eq s2 m9 gd4
    (repeat' (first | (with_reducible refine i_ops ?_; first | (refine g_mv ?_; refine s_mv ?_) | refine o_nil ?_ | (refine g_len ?_; first | refine s_lenN ?_ | refine s_lenB ?_ | refine s_pure ?_) | (refine g_idx ?_; first | (refine s_idxN ?_; intro p hp; try simp only [Int.toNat_natCast] at hp) | (refine s_idxOB ?_; intro p hp hpw) | (refine s_idxB ?_; intro p hp)) | (refine g_slc ?_; ((first | refine s_slcB ?_ | refine s_slcB01 ?_ | refine s_slcB10 ?_); intro us hus hbs)) | (refine g_pure ?_; first | refine s_nadd ?_ | refine s_naddc ?_ | refine s_nsubc ?_ | refine s_wsubc ?_ | refine s_pure ?_ | refine s_saddB ?_) | (refine g_hload ?_; refine s_hloadP ?_) | (refine g_hstore ?_; (refine s_hstoreB ?_; intro G' hle ho hkp))) | (with_reducible refine i_vc ?_; first | refine v_seq ?_ | refine v_ops ?_ | (refine g_cond ?_; first | refine s_cond_t ?_ | refine s_cond_f ?_) | refine v_block ?_ | refine v_skip ?_ | refine v_exit ?_ | refine v_ret ?_ | refine s_drawl ?_ | refine v_draw0 ?_) | (with_reducible refine i_plan ?_; first | refine p_done ?_ | refine s_pre ?_ | refine s_preN ?_ | refine s_ag_t ?_ | refine s_ag_f ?_ | refine s_alt ?_ | refine p_alt ?_ ?_) | (with_reducible first | refine n_then ?_ | refine r_then ?_ | refine e_then ?_ | refine n_block ?_ | refine r_block ?_ | refine e_block_eq (by with_unfolding_all rfl) ?_ | refine e_block_ne (by with_unfolding_all rfl) ?_ | (refine g_stand ?_; first | refine s_stand ?_ | refine s_standL ?_)) | ((with_reducible first | refine s_cond_c ?_ ?_) <;> intro hb <;> rw [hb] <;> (try simp only [decide_eq_true_eq, decide_eq_false_iff_not, beq_iff_eq, bne_iff_ne, beq_eq_false_iff_ne, bne_eq_false_iff_eq, ne_eq, Int.not_lt, Int.not_le, gt_iff_lt, ge_iff_le, Bool.not_eq_true', Bool.not_eq_false'] at hb)) | ((with_reducible first | refine s_ret ?_ | refine s_normal ?_); try simp only [x_tup0, x_tup1, x_tup2, x_tup3, x_tup4, x_tup5, and_true, true_and])))
    refine o_idxW (i := i2) (by with_unfolding_all rfl) (by with_unfolding_all rfl) (by omega) ?_
    refine o_hstoreW (k := .u64) (i := i2) (by with_unfolding_all rfl) w63 (by omega) (by with_unfolding_all rfl) ?_
    intro c66 I4 e66 _ w64
    have hle4 : G0.le I4 := le_eq e66 hle3 hb6
    have hld4 : Gd.le I4 := le_eq e66 hld3 gd6
    have wb4 := wb.keep (put_keep e66 h46)
    have hqs : val 18446744073709551616 ((qs.set i2 g').drop i2) = g' + 18446744073709551616 * val 18446744073709551616 (qs.drop (i2 + 1)) := by rw [val_drop, set_drop, set_getD_eq qs (by omega)]
    have hAe := round_eq k8 hov ov (show X = X % D + D * g' by omega)
    (repeat' (first | (with_reducible refine i_ops ?_; first | (refine g_mv ?_; refine s_mv ?_) | refine o_nil ?_ | (refine g_len ?_; first | refine s_lenN ?_ | refine s_lenB ?_ | refine s_pure ?_) | (refine g_idx ?_; first | (refine s_idxN ?_; intro p hp; try simp only [Int.toNat_natCast] at hp) | (refine s_idxOB ?_; intro p hp hpw) | (refine s_idxB ?_; intro p hp)) | (refine g_slc ?_; ((first | refine s_slcB ?_ | refine s_slcB01 ?_ | refine s_slcB10 ?_); intro us hus hbs)) | (refine g_pure ?_; first | refine s_nadd ?_ | refine s_naddc ?_ | refine s_nsubc ?_ | refine s_wsubc ?_ | refine s_pure ?_ | refine s_saddB ?_) | (refine g_hload ?_; refine s_hloadP ?_) | (refine g_hstore ?_; (refine s_hstoreB ?_; intro G' hle ho hkp))) | (with_reducible refine i_vc ?_; first | refine v_seq ?_ | refine v_ops ?_ | (refine g_cond ?_; first | refine s_cond_t ?_ | refine s_cond_f ?_) | refine v_block ?_ | refine v_skip ?_ | refine v_exit ?_ | refine v_ret ?_ | refine s_drawl ?_ | refine v_draw0 ?_) | (with_reducible refine i_plan ?_; first | refine p_done ?_ | refine s_pre ?_ | refine s_preN ?_ | refine s_ag_t ?_ | refine s_ag_f ?_ | refine s_alt ?_ | refine p_alt ?_ ?_) | (with_reducible first | refine n_then ?_ | refine r_then ?_ | refine e_then ?_ | refine n_block ?_ | refine r_block ?_ | refine e_block_eq (by with_unfolding_all rfl) ?_ | refine e_block_ne (by with_unfolding_all rfl) ?_ | (refine g_stand ?_; first | refine s_stand ?_ | refine s_standL ?_)) | ((with_reducible first | refine s_cond_c ?_ ?_) <;> intro hb <;> rw [hb] <;> (try simp only [decide_eq_true_eq, decide_eq_false_iff_not, beq_iff_eq, bne_iff_ne, beq_eq_false_iff_ne, bne_eq_false_iff_eq, ne_eq, Int.not_lt, Int.not_le, gt_iff_lt, ge_iff_le, Bool.not_eq_true', Bool.not_eq_false'] at hb)) | ((with_reducible first | refine s_ret ?_ | refine s_normal ?_); try simp only [x_tup0, x_tup1, x_tup2, x_tup3, x_tup4, x_tup5, and_true, true_and])))
    refine ⟨i2, by omega, (i2, o', qs.set i2 g', cs3, c66, I4), rfl, ⟨by dsimp only; omega, oll, oD, by simpa using k4, k5.set i2 m2, oz, ?_, ?_, wb4, w64, hvd.le hld4, hle4⟩, (by refine ⟨SL.get_fn (by with_unfolding_all rfl), SL.get_fn (by with_unfolding_all rfl), SL.get_fn (by with_unfolding_all rfl), SL.get_fn (by with_unfolding_all rfl), SL.get_fn (by with_unfolding_all rfl), SL.get_fn (by with_unfolding_all rfl), trivial⟩), trivial, rfl⟩
    · dsimp only; rw [odv]; exact hml
    · dsimp only; rw [hqs]; exact hAe
end Go.Proofs.Ytiijcncdjjdglaa.V
