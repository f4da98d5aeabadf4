/- A number out of bytes. -/
import Derived.Test.YtfacphjjkanajaaDoorKOA
import Derived.Test.YtfacphjjkanajaaDoorKCG
set_option linter.unusedSimpArgs false
set_option linter.unusedVariables false
-- @nums
-- @own
-- @extra s_nquoc s_nremc s_nmulc s_nsub s_nsubc s_naddc s_wshl s_wor' s_wconv
namespace Go.Proofs.YtfacphjjkanajaaDoor.V
open Go.RowKit Go.ChangeShapes Go.WideShapes
theorem nb_at {bs : List UInt8} {i : Nat} (h : i < bs.length) : (bs.getD i 0).toNat = (nb bs).getD ((nb bs).length - 1 - i) 0 := by
  rw [nb_len]
  unfold nb
  rw [List.getD_eq_getElem?_getD, List.getD_eq_getElem?_getD, List.getElem?_map, List.getElem?_reverse (by omega), List.getElem?_eq_getElem h, List.getElem?_eq_getElem (by omega)]
  simp only [Option.map_some, Option.getD_some]
  congr 2
  omega
theorem From (u : Value) (bs : List UInt8) (G : GH) (h : By G u bs) : HC Tryd.prog 5 #[u] G fun v G' => FromR G bs v G' := by
  unfold FromR
  have hn := num_strip bs
  have hds := dg_strip bs
  refine HC.start comp5 rfl ?_; unfold pc5
  (repeat' (first | (with_reducible refine i_ops ?_; first | (refine g_mv ?_; refine s_mv ?_) | refine o_nil ?_ | (refine g_len ?_; first | refine s_lenN ?_ | refine s_lenB ?_ | refine s_pure ?_) | (refine g_idx ?_; first | (refine s_idxON ?_; intro p hp hpw; try simp only [Int.toNat_natCast] at hp hpw) | (refine s_idxN ?_; intro p hp; try simp only [Int.toNat_natCast] at hp) | (refine s_idxOB ?_; intro p hp hpw) | (refine s_idxB ?_; intro p hp)) | (refine g_pure ?_; first | refine s_nquoc ?_ | refine s_nremc ?_ | refine s_nmulc ?_ | refine s_nsub ?_ | refine s_nsubc ?_ | refine s_naddc ?_ | refine s_wshl ?_ | refine s_wor' ?_ | refine s_wconv ?_ | refine s_pure ?_ | refine s_saddB ?_) | (refine g_hload ?_; refine s_hloadP ?_) | (refine g_hstore ?_; first | (refine s_hstoreN ?_; intro G' hle ho hkp) | (refine s_hstoreB ?_; intro G' hle ho hkp))) | (with_reducible refine i_vc ?_; first | refine v_seq ?_ | refine v_ops ?_ | (refine g_cond ?_; first | refine s_cond_t ?_ | refine s_cond_f ?_) | refine v_block ?_ | refine v_skip ?_ | refine v_exit ?_ | refine v_ret ?_ | refine s_drawl ?_ | refine v_draw0 ?_) | (with_reducible refine i_plan ?_; first | refine p_done ?_ | refine s_pre ?_ | refine s_preN ?_ | refine s_ag_t ?_ | refine s_ag_f ?_ | refine s_alt ?_ | refine p_alt ?_ ?_) | (with_reducible first | refine n_then ?_ | refine r_then ?_ | refine e_then ?_ | refine n_block ?_ | refine r_block ?_ | refine e_block_eq (by with_unfolding_all rfl) ?_ | refine e_block_ne (by with_unfolding_all rfl) ?_ | (refine g_stand ?_; first | refine s_stand ?_ | refine s_standL ?_)) | ((with_reducible first | refine s_cond_c ?_ ?_) <;> intro hb <;> rw [hb] <;> (try simp only [decide_eq_true_eq, decide_eq_false_iff_not, beq_iff_eq, bne_iff_ne, beq_eq_false_iff_ne, bne_eq_false_iff_eq, ne_eq, Int.not_lt, Int.not_le, gt_iff_lt, ge_iff_le, Bool.not_eq_true', Bool.not_eq_false'] at hb)) | ((with_reducible first | refine s_ret ?_ | refine s_normal ?_); try simp only [x_tup0, x_tup1, x_tup2, x_tup3, x_tup4, x_tup5, and_true, true_and])))
  refine o_callc (by with_unfolding_all rfl) (trimLeft u bs G h) ?_
  rintro w _ ⟨rfl, hw⟩
  generalize strip bs = ys at *
  have hl := By.len_le hw
  (repeat' (first | (with_reducible refine i_ops ?_; first | (refine g_mv ?_; refine s_mv ?_) | refine o_nil ?_ | (refine g_len ?_; first | refine s_lenN ?_ | refine s_lenB ?_ | refine s_pure ?_) | (refine g_idx ?_; first | (refine s_idxON ?_; intro p hp hpw; try simp only [Int.toNat_natCast] at hp hpw) | (refine s_idxN ?_; intro p hp; try simp only [Int.toNat_natCast] at hp) | (refine s_idxOB ?_; intro p hp hpw) | (refine s_idxB ?_; intro p hp)) | (refine g_pure ?_; first | refine s_nquoc ?_ | refine s_nremc ?_ | refine s_nmulc ?_ | refine s_nsub ?_ | refine s_nsubc ?_ | refine s_naddc ?_ | refine s_wshl ?_ | refine s_wor' ?_ | refine s_wconv ?_ | refine s_pure ?_ | refine s_saddB ?_) | (refine g_hload ?_; refine s_hloadP ?_) | (refine g_hstore ?_; first | (refine s_hstoreN ?_; intro G' hle ho hkp) | (refine s_hstoreB ?_; intro G' hle ho hkp))) | (with_reducible refine i_vc ?_; first | refine v_seq ?_ | refine v_ops ?_ | (refine g_cond ?_; first | refine s_cond_t ?_ | refine s_cond_f ?_) | refine v_block ?_ | refine v_skip ?_ | refine v_exit ?_ | refine v_ret ?_ | refine s_drawl ?_ | refine v_draw0 ?_) | (with_reducible refine i_plan ?_; first | refine p_done ?_ | refine s_pre ?_ | refine s_preN ?_ | refine s_ag_t ?_ | refine s_ag_f ?_ | refine s_alt ?_ | refine p_alt ?_ ?_) | (with_reducible first | refine n_then ?_ | refine r_then ?_ | refine e_then ?_ | refine n_block ?_ | refine r_block ?_ | refine e_block_eq (by with_unfolding_all rfl) ?_ | refine e_block_ne (by with_unfolding_all rfl) ?_ | (refine g_stand ?_; first | refine s_stand ?_ | refine s_standL ?_)) | ((with_reducible first | refine s_cond_c ?_ ?_) <;> intro hb <;> rw [hb] <;> (try simp only [decide_eq_true_eq, decide_eq_false_iff_not, beq_iff_eq, bne_iff_ne, beq_eq_false_iff_ne, bne_eq_false_iff_eq, ne_eq, Int.not_lt, Int.not_le, gt_iff_lt, ge_iff_le, Bool.not_eq_true', Bool.not_eq_false'] at hb)) | ((with_reducible first | refine s_ret ?_ | refine s_normal ?_); try simp only [x_tup0, x_tup1, x_tup2, x_tup3, x_tup4, x_tup5, and_true, true_and])))
  · exact ⟨GH.le_refl _, .inl (by omega)⟩
  obtain ⟨m, hm⟩ : ∃ m, m = (ys.length + 7) / 8 := ⟨_, rfl⟩
  rw [← hm]
  refine o_mkW .u64 m (by with_unfolding_all rfl) (by with_unfolding_all rfl) rfl rfl rfl (by omega) ?_
  intro b3 cs3 G3 hb3 hle3 _ w3
  have hnl := nb_len ys
  have hnd := nb_dl ys
  have htop : nb ys = [] ∨ (nb ys).getD ((nb ys).length - 1) 0 ≠ 0 := by
    rw [← hds]
    rcases Nat.eq_zero_or_pos (num bs) with h0 | h0
    · rw [h0, dg_zero]; exact .inl rfl
    · right
      intro e
      have h1 := val_take_succ 256 (dg 256 (num bs)) ((dg 256 (num bs)).length - 1)
      have h2 : 0 < (dg 256 (num bs)).length := by
        rcases Nat.eq_zero_or_pos (dg 256 (num bs)).length with h | h
        · have := (dg_ne (B := 256) (by decide)).1 (List.eq_nil_of_length_eq_zero h); omega
        · exact h
      rw [Nat.sub_add_cancel h2, List.take_of_length_le (Nat.le_refl _), val_dg (by decide), e, Nat.mul_zero, Nat.add_zero] at h1
      have h3 := val_lt ((dg_lt (B := 256) (by decide) (num bs)).take ((dg 256 (num bs)).length - 1))
      rw [List.length_take, Nat.min_eq_left (by omega), ← h1] at h3
      have := dg_len_le (B := 256) (by decide) h3
      omega
  have hend := gz_end hnd m (by omega) (by omega) htop
  have e0 : rl (wd (gz (nb ys) 0)) m = List.replicate m 0 := by
    refine ext_getD (by rw [rl_len, List.length_replicate]) fun j hj => ?_
    rw [rl_len] at hj
    rw [rl_at _ hj]
    have : wd (gz (nb ys) 0) j = 0 := by unfold wd; simp only [gz_zero]
    rw [this]; simp [List.getD_eq_getElem?_getD, List.getElem?_replicate, hj]
  have hw3 := hw.le hle3
  have o3 : Own 1 G G3 (.slice (some ⟨b3, 0, none⟩) m m) ((rl (wd (gz (nb ys) 0)) m).map (iv .u64)) := by rw [e0]; exact w3.own' hb3 (by simp)
  clear w3 e0
  (repeat' (first | (with_reducible refine i_ops ?_; first | (refine g_mv ?_; refine s_mv ?_) | refine o_nil ?_ | (refine g_len ?_; first | refine s_lenN ?_ | refine s_lenB ?_ | refine s_pure ?_) | (refine g_idx ?_; first | (refine s_idxON ?_; intro p hp hpw; try simp only [Int.toNat_natCast] at hp hpw) | (refine s_idxN ?_; intro p hp; try simp only [Int.toNat_natCast] at hp) | (refine s_idxOB ?_; intro p hp hpw) | (refine s_idxB ?_; intro p hp)) | (refine g_pure ?_; first | refine s_nquoc ?_ | refine s_nremc ?_ | refine s_nmulc ?_ | refine s_nsub ?_ | refine s_nsubc ?_ | refine s_naddc ?_ | refine s_wshl ?_ | refine s_wor' ?_ | refine s_wconv ?_ | refine s_pure ?_ | refine s_saddB ?_) | (refine g_hload ?_; refine s_hloadP ?_) | (refine g_hstore ?_; first | (refine s_hstoreN ?_; intro G' hle ho hkp) | (refine s_hstoreB ?_; intro G' hle ho hkp))) | (with_reducible refine i_vc ?_; first | refine v_seq ?_ | refine v_ops ?_ | (refine g_cond ?_; first | refine s_cond_t ?_ | refine s_cond_f ?_) | refine v_block ?_ | refine v_skip ?_ | refine v_exit ?_ | refine v_ret ?_ | refine s_drawl ?_ | refine v_draw0 ?_) | (with_reducible refine i_plan ?_; first | refine p_done ?_ | refine s_pre ?_ | refine s_preN ?_ | refine s_ag_t ?_ | refine s_ag_f ?_ | refine s_alt ?_ | refine p_alt ?_ ?_) | (with_reducible first | refine n_then ?_ | refine r_then ?_ | refine e_then ?_ | refine n_block ?_ | refine r_block ?_ | refine e_block_eq (by with_unfolding_all rfl) ?_ | refine e_block_ne (by with_unfolding_all rfl) ?_ | (refine g_stand ?_; first | refine s_stand ?_ | refine s_standL ?_)) | ((with_reducible first | refine s_cond_c ?_ ?_) <;> intro hb <;> rw [hb] <;> (try simp only [decide_eq_true_eq, decide_eq_false_iff_not, beq_iff_eq, bne_iff_ne, beq_eq_false_iff_ne, bne_eq_false_iff_eq, ne_eq, Int.not_lt, Int.not_le, gt_iff_lt, ge_iff_le, Bool.not_eq_true', Bool.not_eq_false'] at hb)) | ((with_reducible first | refine s_ret ?_ | refine s_normal ?_); try simp only [x_tup0, x_tup1, x_tup2, x_tup3, x_tup4, x_tup5, and_true, true_and])))
  refine v_loopX (α := Nat × GH) (fun q => q.1 ≤ ys.length ∧ G.le q.2 ∧ Own 1 G q.2 (.slice (some ⟨b3, 0, none⟩) m m) ((rl (wd (gz (nb ys) q.1)) m).map (iv .u64))) (fun q => [(0, w), (4, .slice (some ⟨b3, 0, none⟩) m m), (18, .int .i64 ys.length), (19, .int .i64 q.1)]) (fun _ => []) (fun q => q.2) (fun q => ys.length - q.1) (0, G3)
    ⟨Nat.zero_le _, hle3, o3⟩ (by refine ⟨SL.get_fn (by with_unfolding_all rfl), SL.get_fn (by with_unfolding_all rfl), SL.get_fn (by with_unfolding_all rfl), SL.get_fn (by with_unfolding_all rfl), trivial⟩) trivial rfl ?_
  clear o3
  rintro ⟨i, H⟩ s ll ⟨k1, k2, k3⟩
  dsimp only at k1 k2 k3
  dsimp only [SL.sets, AL.sets]
  have hwH : By H w ys := hw.le k2
  have hxn : Nu .u64 H (.slice (some ⟨b3, 0, none⟩) m m) (rl (wd (gz (nb ys) i)) m) := k3.sl
  have hrl := rl_len (wd (gz (nb ys) i)) m
  have hb9 : (ys.getD (i : Int).toNat 0).toNat < 256 := (ys.getD (i : Int).toNat 0).toNat_lt
  have hxd : (rl (wd (gz (nb ys) i)) m).getD ((ys.length - 1 - i) / 8) 0 < 18446744073709551616 := by
    by_cases h : (ys.length - 1 - i) / 8 < m
    · rw [rl_at _ h]; exact wd_lt (gz_lt hnd i) _
    · rw [getD_ge _ (by rw [rl_len]; omega)]; decide
  have hst := gz_step (ds := nb ys) hnd (i := i)
  (repeat' (first | (with_reducible refine i_ops ?_; first | (refine g_mv ?_; refine s_mv ?_) | refine o_nil ?_ | (refine g_len ?_; first | refine s_lenN ?_ | refine s_lenB ?_ | refine s_pure ?_) | (refine g_idx ?_; first | (refine s_idxON ?_; intro p hp hpw; try simp only [Int.toNat_natCast] at hp hpw) | (refine s_idxN ?_; intro p hp; try simp only [Int.toNat_natCast] at hp) | (refine s_idxOB ?_; intro p hp hpw) | (refine s_idxB ?_; intro p hp)) | (refine g_pure ?_; first | refine s_nquoc ?_ | refine s_nremc ?_ | refine s_nmulc ?_ | refine s_nsub ?_ | refine s_nsubc ?_ | refine s_naddc ?_ | refine s_wshl ?_ | refine s_wor' ?_ | refine s_wconv ?_ | refine s_pure ?_ | refine s_saddB ?_) | (refine g_hload ?_; refine s_hloadP ?_) | (refine g_hstore ?_; first | (refine s_hstoreN ?_; intro G' hle ho hkp) | (refine s_hstoreB ?_; intro G' hle ho hkp))) | (with_reducible refine i_vc ?_; first | refine v_seq ?_ | refine v_ops ?_ | (refine g_cond ?_; first | refine s_cond_t ?_ | refine s_cond_f ?_) | refine v_block ?_ | refine v_skip ?_ | refine v_exit ?_ | refine v_ret ?_ | refine v_drawG G (by first | assumption | exact GH.le_refl _ | ((repeat (first | exact GH.le_refl _ | assumption | refine GH.le_trans ?_ (by assumption))); first | done | fail)) ?_) | (with_reducible refine i_plan ?_; first | refine p_done ?_ | refine s_preN ?_ | refine p_preG (by with_unfolding_all rfl) ?_ | refine s_ag_t ?_ | refine s_ag_f ?_ | refine s_alt ?_ | refine p_alt ?_ ?_) | (with_reducible first | refine n_then ?_ | refine r_then ?_ | refine e_then ?_ | refine n_block ?_ | refine r_block ?_ | refine e_block_eq (by with_unfolding_all rfl) ?_ | refine e_block_ne (by with_unfolding_all rfl) ?_ | (refine g_stand ?_; first | refine s_stand ?_ | refine s_standL ?_)) | (with_reducible refine k_back ?_) | ((with_reducible first | refine s_cond_c ?_ ?_) <;> intro hb <;> rw [hb] <;> (try simp only [decide_eq_true_eq, decide_eq_false_iff_not, beq_iff_eq, bne_iff_ne, beq_eq_false_iff_ne, bne_eq_false_iff_eq, ne_eq, Int.not_lt, Int.not_le, gt_iff_lt, ge_iff_le, Bool.not_eq_true', Bool.not_eq_false'] at hb)) | ((with_reducible first | refine s_ret ?_ | refine s_normal ?_); try simp only [x_tup0, x_tup1, x_tup2, x_tup3, x_tup4, x_tup5, and_true, true_and])))
  rotate_right
  · have hi' : i = ys.length := by omega
    subst hi'
    rw [hnl] at hend
    rw [hend] at k3
    exact ⟨k2, .inr ⟨by omega, _, rfl, by rw [← hn]; exact k3⟩⟩
  all_goals
    obtain ⟨s1, s2⟩ := hst (by omega) m (by omega)
    rw [← nb_at (by omega), hnl] at s1 s2
    rw [Int.toNat_natCast, Nat.mul_comm ((ys.length - 1 - i) % 8) 8, Nat.mod_eq_of_lt s2, ← s1] at ho
    refine ⟨ys.length - (i + 1), by omega, (i + 1, G'), rfl, ⟨by dsimp only; omega, hle, ho⟩, ?_, trivial, rfl⟩
    exact (by refine ⟨SL.get_fn (by with_unfolding_all rfl), SL.get_fn (by with_unfolding_all rfl), SL.get_fn (by with_unfolding_all rfl), SL.get_fn (by with_unfolding_all rfl), trivial⟩)
end Go.Proofs.YtfacphjjkanajaaDoor.V
