/- A modulus is made or refused. -/
import Derived.Test.YtiijcncdjjdglaaGQF
set_option linter.unusedSimpArgs false
set_option linter.unusedVariables false
-- @nums
-- @extra s_wandc s_nilPf s_nilPt s_nilNf s_nilNt s_nilck s_fptr0
namespace Go.Proofs.Ytiijcncdjjdglaa.V
open Go.RowKit Go.ChangeShapes Go.WideShapes
theorem val_mod (xs : List Nat) (hd : Dl 18446744073709551616 xs) : val 18446744073709551616 xs % 18446744073709551616 = xs.getD 0 0 := by
  have h1 := val_split 18446744073709551616 xs 1
  have h2 : val 18446744073709551616 (xs.take 1) = xs.getD 0 0 := by
    rw [val_take_succ 18446744073709551616 xs 0]; simp [val]
  have h3 := hd.getD (by decide) 0
  rw [h2, Nat.pow_one] at h1
  omega
theorem ln_one {xs : List Nat} (hd : Dl 18446744073709551616 xs) : val 18446744073709551616 xs = 1 ↔ ln xs = 1 ∧ xs.getD 0 0 = 1 := by
  have h0 := val_mod xs hd
  constructor
  · intro h
    refine ⟨?_, by rw [← h0, h]⟩
    unfold ln; rw [h]
    have h1 := dg_len_le (B := 18446744073709551616) (by decide) (k := 1) (n := 1) (by decide)
    have h2 := dg_len_ge (B := 18446744073709551616) (by decide) (k := 0) (n := 1) (by decide)
    omega
  · rintro ⟨h1, h2⟩
    have h3 := lt_dg (B := 18446744073709551616) (by decide) (val 18446744073709551616 xs)
    unfold ln at h1
    rw [h1, Nat.pow_one] at h3
    rw [Nat.mod_eq_of_lt h3] at h0
    omega
theorem newMid (u : Value) (xs : List Nat) (G : GH) (h : Nu .u64 G u xs) (hd : Dl 18446744073709551616 xs) (sl : Nat → Value) (ll : Nat → Array Value) :
    vc Try.prog E9 (sndN 3 pc9) (endQ [.slot 2, .slot 3] (NewR G xs)) (S (SL.sets sl [(0, u), (4, iv .i64 (ln xs))]) (AL.sets ll []) G) := by
  have lx := ln_le hd
  have hl := Nu.len_le h
  have hT := newT u xs G h hd
  have h0 := val_mod xs hd
  have h1 := ln_one hd
  have h2 : ln xs = 0 → val 18446744073709551616 xs = 0 := fun h => (dg_ne (B := 18446744073709551616) (by decide)).1 (List.eq_nil_of_length_eq_zero h)
  unfold pc9 at hT ⊢
  simp only [sndN, SL.sets, AL.sets] at hT ⊢
  refine v_seq ?_
  generalize hQ : vc Try.prog E9 _ (endQ _ _) = Q'
  have ha : (xs.getD 0 0 &&& 1) % 18446744073709551616 = xs.getD 0 0 % 2 := and1 _
  generalize hln : ln xs = n at *
  (repeat' (first | (with_reducible refine i_ops ?_; first | (refine g_mv ?_; refine s_mv ?_) | refine o_nil ?_ | (refine g_some ?_; first | refine s_g_t ?_ | refine s_g_f ?_ | refine s_g_f' ?_ | refine s_g_u ?_) | (refine g_pick ?_; first | refine s_pick_t ?_ | refine s_pick_f ?_) | (refine g_len ?_; first | refine s_lenN ?_ | refine s_lenB ?_ | refine s_pure ?_) | (refine g_idx ?_; first | (refine s_idxN ?_; intro p hp; try simp only [Int.toNat_natCast] at hp) | (refine s_idxOB ?_; intro p hp hpw) | (refine s_idxB ?_; intro p hp)) | (refine g_slc ?_; ((first | refine s_slcB ?_ | refine s_slcB01 ?_ | refine s_slcB10 ?_); intro us hus hbs)) | (refine g_build ?_; first | refine s_build ?_ | refine s_buildP ?_) | (refine g_pure ?_; first | refine s_wandc ?_ | refine s_nilPf ?_ | refine s_nilPt ?_ | refine s_nilNf ?_ | refine s_nilNt ?_ | refine s_nilck ?_ | refine s_fptr0 ?_ | refine s_pure ?_ | refine s_saddB ?_) | (refine g_hload ?_; refine s_hloadP ?_) | (refine g_hstore ?_; (refine s_hstoreB ?_; intro G' hle ho hkp))) | (with_reducible refine i_vc ?_; first | refine v_seq ?_ | refine v_ops ?_ | (refine g_cond ?_; first | refine s_cond_t ?_ | refine s_cond_f ?_) | refine v_block ?_ | refine v_skip ?_ | refine v_exit ?_ | refine v_ret ?_ | refine s_drawl ?_ | refine v_draw0 ?_) | (with_reducible refine i_plan ?_; first | refine p_done ?_ | refine s_pre ?_ | refine s_preN ?_ | refine s_ag_t ?_ | refine s_ag_f ?_ | refine s_alt ?_ | refine p_alt ?_ ?_) | (with_reducible first | refine n_then ?_ | refine r_then ?_ | refine e_then ?_ | refine n_block ?_ | refine r_block ?_ | refine e_block_eq (by with_unfolding_all rfl) ?_ | refine e_block_ne (by with_unfolding_all rfl) ?_ | (refine g_stand ?_; first | refine s_stand ?_ | refine s_standL ?_)) | ((with_reducible first | refine s_g_c ?_ ?_ | refine s_cond_c ?_ ?_ | refine s_tg_c ?_ ?_ | refine s_ag_c ?_ ?_) <;> intro hb <;> rw [hb] <;> (try simp only [decide_eq_true_eq, decide_eq_false_iff_not, beq_iff_eq, bne_iff_ne, beq_eq_false_iff_ne, bne_eq_false_iff_eq, ne_eq, Int.not_lt, Int.not_le, gt_iff_lt, ge_iff_le, Bool.not_eq_true', Bool.not_eq_false'] at hb)) | ((with_reducible first | refine s_ret ?_ | refine s_normal ?_); try simp only [x_tup0, x_tup1, x_tup2, x_tup3, x_tup4, x_tup5, and_true, true_and])))
  · exact ⟨GH.le_refl _, .inl ⟨by omega, rfl⟩⟩
  · exact ⟨GH.le_refl _, .inr (.inl ⟨by omega, .inl (by rw [h2 (by omega)]), rfl⟩)⟩
  · exact ⟨GH.le_refl _, .inr (.inl ⟨by omega, .inl (by omega), rfl⟩)⟩
  · exact ⟨GH.le_refl _, .inr (.inl ⟨by omega, .inr (h1.2 ⟨by omega, by omega⟩), rfl⟩)⟩
  · have hb1 : xs.getD 0 0 ≠ 1 := fun h => hb (by rw [h]; rfl)
    subst hQ
    refine v_trim [(0, u), (4, iv .i64 n)] [] (by refine ⟨SL.get_fn (by with_unfolding_all rfl), SL.get_fn (by with_unfolding_all rfl), trivial⟩) trivial ?_
    intro s l
    refine hT (by omega) (by omega) ?_ s l
    have h3 : val 18446744073709551616 xs ≠ 1 := fun h => by have := h1.1 h; omega
    have h4 : val 18446744073709551616 xs ≠ 0 := fun h => by rw [h] at h0; omega
    omega
  · have hb1 : n ≠ 1 := by omega
    subst hQ
    refine v_trim [(0, u), (4, iv .i64 n)] [] (by refine ⟨SL.get_fn (by with_unfolding_all rfl), SL.get_fn (by with_unfolding_all rfl), trivial⟩) trivial ?_
    intro s l
    refine hT (by omega) (by omega) ?_ s l
    have h3 : val 18446744073709551616 xs ≠ 1 := fun h => by have := h1.1 h; omega
    have h4 : val 18446744073709551616 xs ≠ 0 := fun h => by rw [h] at h0; omega
    omega
theorem New (u : Value) (xs : List Nat) (G : GH) (h : Nu .u64 G u xs) (hd : Dl 18446744073709551616 xs) : HC Try.prog 9 #[u] G fun v G' => NewR G xs v G' := by
  have hl := Nu.len_le h
  have hT := newMid u xs G h hd
  unfold pc9 at hT
  simp only [sndN, SL.sets, AL.sets] at hT
  refine HC.start comp9 rfl ?_; unfold pc9
  (repeat' (first | (with_reducible refine i_ops ?_; first | (refine g_mv ?_; refine s_mv ?_) | refine o_nil ?_ | (refine g_some ?_; first | refine s_g_t ?_ | refine s_g_f ?_ | refine s_g_f' ?_ | refine s_g_u ?_) | (refine g_pick ?_; first | refine s_pick_t ?_ | refine s_pick_f ?_) | (refine g_len ?_; first | refine s_lenN ?_ | refine s_lenB ?_ | refine s_pure ?_) | (refine g_idx ?_; first | (refine s_idxN ?_; intro p hp; try simp only [Int.toNat_natCast] at hp) | (refine s_idxOB ?_; intro p hp hpw) | (refine s_idxB ?_; intro p hp)) | (refine g_slc ?_; ((first | refine s_slcB ?_ | refine s_slcB01 ?_ | refine s_slcB10 ?_); intro us hus hbs)) | (refine g_build ?_; first | refine s_build ?_ | refine s_buildP ?_) | (refine g_pure ?_; first | refine s_wandc ?_ | refine s_nilPf ?_ | refine s_nilPt ?_ | refine s_nilNf ?_ | refine s_nilNt ?_ | refine s_nilck ?_ | refine s_fptr0 ?_ | refine s_pure ?_ | refine s_saddB ?_) | (refine g_hload ?_; refine s_hloadP ?_) | (refine g_hstore ?_; (refine s_hstoreB ?_; intro G' hle ho hkp))) | (with_reducible refine i_vc ?_; first | refine v_seq ?_ | refine v_ops ?_ | (refine g_cond ?_; first | refine s_cond_t ?_ | refine s_cond_f ?_) | refine v_block ?_ | refine v_skip ?_ | refine v_exit ?_ | refine v_ret ?_ | refine s_drawl ?_ | refine v_draw0 ?_) | (with_reducible refine i_plan ?_; first | refine p_done ?_ | refine s_pre ?_ | refine s_preN ?_ | refine s_ag_t ?_ | refine s_ag_f ?_ | refine s_alt ?_ | refine p_alt ?_ ?_) | (with_reducible first | refine n_then ?_ | refine r_then ?_ | refine e_then ?_ | refine n_block ?_ | refine r_block ?_ | refine e_block_eq (by with_unfolding_all rfl) ?_ | refine e_block_ne (by with_unfolding_all rfl) ?_ | (refine g_stand ?_; first | refine s_stand ?_ | refine s_standL ?_)) | ((with_reducible first | refine s_g_c ?_ ?_ | refine s_cond_c ?_ ?_ | refine s_tg_c ?_ ?_ | refine s_ag_c ?_ ?_) <;> intro hb <;> rw [hb] <;> (try simp only [decide_eq_true_eq, decide_eq_false_iff_not, beq_iff_eq, bne_iff_ne, beq_eq_false_iff_ne, bne_eq_false_iff_eq, ne_eq, Int.not_lt, Int.not_le, gt_iff_lt, ge_iff_le, Bool.not_eq_true', Bool.not_eq_false'] at hb)) | ((with_reducible first | refine s_ret ?_ | refine s_normal ?_); try simp only [x_tup0, x_tup1, x_tup2, x_tup3, x_tup4, x_tup5, and_true, true_and])))
  generalize hQ : vc Try.prog E9 _ (endQ _ _) = Q'
  refine v_loopX (α := Nat) (fun i => i ≤ xs.length ∧ ∀ j, i ≤ j → xs.getD j 0 = 0) (fun i => [(0, u), (4, .int .i64 i)]) (fun _ => []) (fun _ => G) (fun i => i) xs.length
    ⟨Nat.le_refl _, fun j hj => getD_ge xs hj⟩ (by refine ⟨SL.get_fn (by with_unfolding_all rfl), SL.get_fn (by with_unfolding_all rfl), trivial⟩) trivial rfl ?_
  rintro i s ll ⟨k1, k2⟩
  dsimp only [SL.sets, AL.sets]
  (repeat' (first | (with_reducible refine i_ops ?_; first | (refine g_mv ?_; refine s_mv ?_) | refine o_nil ?_ | (refine g_some ?_; first | refine s_g_t ?_ | refine s_g_f ?_ | refine s_g_f' ?_ | refine s_g_u ?_) | (refine g_pick ?_; first | refine s_pick_t ?_ | refine s_pick_f ?_) | (refine g_len ?_; first | refine s_lenN ?_ | refine s_lenB ?_ | refine s_pure ?_) | (refine g_idx ?_; first | (refine s_idxN ?_; intro p hp; try simp only [Int.toNat_natCast] at hp) | (refine s_idxOB ?_; intro p hp hpw) | (refine s_idxB ?_; intro p hp)) | (refine g_slc ?_; ((first | refine s_slcB ?_ | refine s_slcB01 ?_ | refine s_slcB10 ?_); intro us hus hbs)) | (refine g_build ?_; first | refine s_build ?_ | refine s_buildP ?_) | (refine g_pure ?_; first | refine s_wandc ?_ | refine s_nilPf ?_ | refine s_nilPt ?_ | refine s_nilNf ?_ | refine s_nilNt ?_ | refine s_nilck ?_ | refine s_fptr0 ?_ | refine s_pure ?_ | refine s_saddB ?_) | (refine g_hload ?_; refine s_hloadP ?_) | (refine g_hstore ?_; (refine s_hstoreB ?_; intro G' hle ho hkp))) | (with_reducible refine i_vc ?_; first | refine v_seq ?_ | refine v_ops ?_ | (refine g_cond ?_; first | refine s_cond_t ?_ | refine s_cond_f ?_) | refine v_block ?_ | refine v_skip ?_ | refine v_exit ?_ | refine v_ret ?_ | refine s_drawl ?_ | refine v_draw0 ?_) | (with_reducible refine i_plan ?_; first | refine p_done ?_ | refine s_pre ?_ | refine s_preN ?_ | refine s_ag_t ?_ | refine s_ag_f ?_ | refine s_alt ?_ | refine p_alt ?_ ?_) | (with_reducible first | refine n_then ?_ | refine r_then ?_ | refine e_then ?_ | refine n_block ?_ | refine r_block ?_ | refine e_block_eq (by with_unfolding_all rfl) ?_ | refine e_block_ne (by with_unfolding_all rfl) ?_ | (refine g_stand ?_; first | refine s_stand ?_ | refine s_standL ?_)) | ((with_reducible first | refine s_g_c ?_ ?_ | refine s_cond_c ?_ ?_ | refine s_tg_c ?_ ?_ | refine s_ag_c ?_ ?_) <;> intro hb <;> rw [hb] <;> (try simp only [decide_eq_true_eq, decide_eq_false_iff_not, beq_iff_eq, bne_iff_ne, beq_eq_false_iff_ne, bne_eq_false_iff_eq, ne_eq, Int.not_lt, Int.not_le, gt_iff_lt, ge_iff_le, Bool.not_eq_true', Bool.not_eq_false'] at hb)) | ((with_reducible first | refine s_ret ?_ | refine s_normal ?_); try simp only [x_tup0, x_tup1, x_tup2, x_tup3, x_tup4, x_tup5, and_true, true_and])))
  · refine ⟨i - 1, by omega, i - 1, rfl, ⟨by omega, fun j hj => ?_⟩, ?_, trivial, rfl⟩
    · by_cases h1 : j = i - 1
      · rw [show (↑i - 1 : Int).toNat = i - 1 by omega] at hb
        rw [h1]; omega
      · exact k2 j (by omega)
    · rw [show ((i - 1 : Nat) : Int) = (i : Int) - 1 by omega]
      exact (by refine ⟨SL.get_fn (by with_unfolding_all rfl), SL.get_fn (by with_unfolding_all rfl), trivial⟩)
  all_goals
    have e : xs.take i = dg 18446744073709551616 (val 18446744073709551616 xs) := dg_take (by decide) hd k1 k2 (by first | (exact .inl (by omega)) | (exact .inr (by rw [show (↑i - 1 : Int).toNat = i - 1 by omega] at hb; omega)))
    have e2 : ln xs = i := by unfold ln; rw [← e, List.length_take]; omega
    subst e2 hQ
    refine v_trim [(0, u), (4, iv .i64 (ln xs))] [] (by refine ⟨SL.get_fn (by with_unfolding_all rfl), SL.get_fn (by with_unfolding_all rfl), trivial⟩) trivial ?_
    intro s l
    exact hT s l
end Go.Proofs.Ytiijcncdjjdglaa.V
