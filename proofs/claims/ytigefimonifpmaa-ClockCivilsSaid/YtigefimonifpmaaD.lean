/- Times in the calendar: what they are. -/
import Derived.Test.YtigefimonifpmaaC
set_option linter.unusedSimpArgs false
set_option linter.unusedVariables false
namespace Go.Proofs.Ytigefimonifpmaa.V
open Go.RowKit Go.ChangeShapes Go.WideShapes
theorem leapN_eq (y : Int) : leapN y = if (y % 4 = 0 ∧ (y % 100 ≠ 0 ∨ y % 400 = 0)) then 1 else 0 := by
  unfold leapN; rw [leap_eq]; simp only [decide_eq_true_eq]
theorem sum12 (y : Int) : sumM y 12 = 365 + leapN y := by
  unfold leapN
  cases h : leap y <;> simp [sumM, mdays, h]
theorem sumM_le (y : Int) : ∀ {a b : Nat}, a ≤ b → sumM y a ≤ sumM y b := by
  intro a b h
  induction h with
  | refl => exact Int.le_refl _
  | @step m h ih => have := mdays_nn y ((m : Int) + 1); simp only [sumM]; exact Int.le_trans ih (Int.le_add_of_nonneg_right this.1)
theorem ahead_lt {y z : Int} (h : y < z) : ahead (y + 1) ≤ ahead z := by unfold ahead; omega
theorem ahead_400 (q : Int) : ahead (1950 + 400 * q) = ahead 1950 + 146097 * q := by unfold ahead; omega
/-- The seconds of a time in the calendar. -/
def secOf (y mo d h mi s : Int) : Int := dayNo y mo d * 86400 + h * 3600 + mi * 60 + s
theorem mon_of_ok {y mo d : Int} (h1 : 1 ≤ d) (h2 : d ≤ mdays y mo) : 1 ≤ mo ∧ mo ≤ 12 := by
  have : 1 ≤ mdays y mo := by omega
  unfold mdays at this
  split at this <;> omega
theorem day_in {y mo d : Int} (h1 : 1 ≤ d) (h2 : d ≤ mdays y mo) : 0 ≤ sumM y (mo - 1).toNat + d - 1 ∧ sumM y (mo - 1).toNat + d - 1 < 365 + leapN y := by
  have hm := mon_of_ok h1 h2
  have a := sumM_nn y (mo - 1).toNat
  have b := sumM_succ y hm.1
  have c := sumM_le y (a := (mo + 1 - 1).toNat) (b := 12) (by omega)
  rw [sum12] at c
  omega
/-- A day has one place in the calendar. -/
theorem dayNo_inj {y mo d y' mo' d' : Int} (h1 : 1 ≤ d) (h2 : d ≤ mdays y mo) (h1' : 1 ≤ d') (h2' : d' ≤ mdays y' mo') (h : dayNo y mo d = dayNo y' mo' d') : y = y' ∧ mo = mo' ∧ d = d' := by
  have hm := mon_of_ok h1 h2
  have hm' := mon_of_ok h1' h2'
  have a := day_in h1 h2
  have a' := day_in h1' h2'
  have b := ahead_succ y
  have b' := ahead_succ y'
  unfold dayNo at h
  have hy : y = y' := by
    rcases Int.lt_trichotomy y y' with l | l | l
    · have := ahead_lt l; omega
    · exact l
    · have := ahead_lt l; omega
  subst hy
  have hmo : mo = mo' := by
    rcases Int.lt_trichotomy mo mo' with l | l | l
    · have e := sumM_le y (a := (mo + 1 - 1).toNat) (b := (mo' - 1).toNat) (by omega)
      rw [sumM_succ y hm.1] at e; omega
    · exact l
    · have e := sumM_le y (a := (mo' + 1 - 1).toNat) (b := (mo - 1).toNat) (by omega)
      rw [sumM_succ y hm'.1] at e; omega
  subst hmo
  exact ⟨rfl, rfl, by omega⟩
theorem secOf_inj {y mo d h mi s y' mo' d' h' mi' s' : Int} (o : okC y mo d h mi s) (o' : okC y' mo' d' h' mi' s') (e : secOf y mo d h mi s = secOf y' mo' d' h' mi' s') : y = y' ∧ mo = mo' ∧ d = d' ∧ h = h' ∧ mi = mi' ∧ s = s' := by
  obtain ⟨_, _, o1, o2, o3, o4, o5, o6, o7, o8⟩ := o
  obtain ⟨_, _, p1, p2, p3, p4, p5, p6, p7, p8⟩ := o'
  unfold secOf at e
  have e1 : dayNo y mo d = dayNo y' mo' d' := by omega
  obtain ⟨q1, q2, q3⟩ := dayNo_inj o1 o2 p1 p2 e1
  exact ⟨q1, q2, q3, by omega, by omega, by omega⟩
/-- A time. -/
def isT (t : Int) : Prop := -631152000 ≤ t ∧ t ≤ 253402300799
instance (t : Int) : Decidable (isT t) := by unfold isT; infer_instance
theorem ahead_vals : ahead 1950 = 711857 ∧ ahead 1970 = 719162 ∧ ahead 10000 = 3652059 := by decide
/-- The place in the calendar, if there is one. -/
structure CivOf (t y mo d h mi s : Int) : Prop where
  ok : okC y mo d h mi s
  sec : secOf y mo d h mi s = t
theorem CivOf.uniq {t y mo d h mi s y' mo' d' h' mi' s' : Int} (o : CivOf t y mo d h mi s) (o' : CivOf t y' mo' d' h' mi' s') : y = y' ∧ mo = mo' ∧ d = d' ∧ h = h' ∧ mi = mi' ∧ s = s' := secOf_inj o.ok o'.ok (o.sec.trans o'.sec.symm)
theorem CivOf.isT {t y mo d h mi s : Int} (o : CivOf t y mo d h mi s) : V.isT t := by
  obtain ⟨⟨k1, k2, o1, o2, o3, o4, o5, o6, o7, o8⟩, e⟩ := o
  have a := day_in o1 o2
  have v := ahead_vals
  have b : ahead (y + 1) ≤ ahead 10000 := by unfold ahead; omega
  have c : ahead 1950 ≤ ahead y := by unfold ahead; omega
  have b' := ahead_succ y
  unfold secOf dayNo at e
  unfold V.isT
  omega
theorem length33 (y : Int) (G : GH) : HC Try.prog 33 #[.int .i64 y] G fun v G' => v = .int .i64 (365 + leapN y) ∧ G' = G := by
  refine HC.start comp33 rfl ?_; unfold pc33
  (repeat' (first | (with_reducible refine i_ops ?_; first | (with_reducible refine o_mv (by with_unfolding_all rfl) ?_) | (with_reducible refine o_pure (by with_unfolding_all rfl) (by (simp only [Int.reduceBEq, Int.reduceBNe, Int.reduceLE, decide_true, decide_false, beq_self_eq_true, bne_self_eq_false, Bool.not_true, Bool.not_false, Bool.and_true, Bool.and_self, x_bits8, x_bits32, x_bits64, x_bitsi, Nat.min_def, Nat.reduceLeDiff, Int.reducePow, Int.fdiv_eq_ediv_of_nonneg, Int.reduceLE, x_seqlB, x_sneqB, x_slssB, x_lenSB, strB_size, wrap8, x_add, x_sub, x_mul, x_quo, x_rem, x_eql, x_neq, x_lss, x_leq, x_gtr, x_geq, x_and, x_or, x_xor, x_shl, x_shr, x_sadd, x_beql, x_bneq, x_not, x_neg, x_convI, x_convS, x_ext2a, x_ext2b, x_ext3a, x_ext3b, x_ext3c, x_ext4a, x_ext4b, x_ext4c, x_ext4d, x_lenS, x_lenL, x_min2, x_max2, x_take1, eqSh, x_eqA, Option.map_some, x_kindEq, cond_true, x_cells_i, x_cells_b, x_cells_s, x_cells_l, x_cells_p, x_cells_a, List.getElem?_toArray, List.getElem?_cons_zero, List.getElem?_cons_succ, reduceIte, if_true, if_false, Bool.false_eq_true, Int.reduceEq, Int.reduceNeg, Int.reduceToNat, Int.reduceAdd, Int.reduceSub, Int.reduceMul, Int.reduceLT, Nat.reduceAdd, Int.zero_add, Int.add_zero, Int.mul_one, Int.natCast_one, Int.cast_ofNat_Int, Int.toNat_natCast]; first | (rw [wrap_i64] <;> omega) | (rw [Int.tdiv_eq_ediv_of_nonneg (by omega), wrap_i64] <;> omega) | rw [Int.tmod_eq_emod_of_nonneg (by omega)] | rfl)) ?_) | (with_reducible refine o_lfield (by with_unfolding_all rfl) (by ((first | simp only [x_take1, List.getElem?_toArray, List.getElem?_cons_zero, List.getElem?_cons_succ, Int.reduceToNat, Int.reduceAdd, Int.reduceSub, Int.reduceMul, Int.zero_add, Int.add_zero, Int.mul_one, Int.natCast_one, Int.cast_ofNat_Int, Int.toNat_natCast, x_cells_i, x_cells_b, x_cells_s, x_cells_l, x_cells_p, x_cells_a] | skip); (first | done | rfl))) ?_) | (with_reducible refine o_lload (by with_unfolding_all rfl) (by with_unfolding_all rfl) (by first | exact x_takeA (by with_unfolding_all rfl) | (first | simp only [x_take1, List.getElem?_toArray, List.getElem?_cons_zero, List.getElem?_cons_succ, Int.reduceToNat, Int.reduceAdd, Int.reduceSub, Int.reduceMul, Int.zero_add, Int.add_zero, Int.mul_one, Int.natCast_one, Int.cast_ofNat_Int, Int.toNat_natCast, x_cells_i, x_cells_b, x_cells_s, x_cells_l, x_cells_p, x_cells_a] | skip); (first | done | rfl)) ?_) | (with_reducible refine o_nil ?_) | (with_reducible refine o_pick_t (by with_unfolding_all rfl) (by with_reducible rfl) (by with_unfolding_all rfl) ?_) | (with_reducible refine o_pick_f (by with_unfolding_all rfl) (by with_reducible rfl) (by with_unfolding_all rfl) ?_) | (with_reducible refine o_g_t (by with_unfolding_all rfl) (by with_reducible rfl) ?_) | (with_reducible refine o_g_f (by with_unfolding_all rfl) (by with_reducible rfl) ?_) | (with_reducible refine o_g_f' (by with_unfolding_all rfl) (by with_reducible rfl) ?_) | (with_reducible refine o_g_u (by with_unfolding_all rfl) (by with_reducible rfl) ?_) | (with_reducible refine o_lenB (by with_unfolding_all rfl) (by first | assumption | solve_by_elim [Sl.le, GH.le_trans, Own.sl]) ?_) | ((with_reducible refine o_idxB (by with_unfolding_all rfl) (by first | assumption | solve_by_elim [Sl.le, GH.le_trans, Own.sl]) (by with_unfolding_all rfl) (by omega) (by omega) ?_); intro p hp) | (with_reducible refine o_hloadP (by with_unfolding_all rfl) (by assumption) ?_) | (with_reducible refine o_b2sB (by with_unfolding_all rfl) (by first | assumption | solve_by_elim [Sl.le, GH.le_trans, Own.sl]) ?_) | ((with_reducible first | refine o_slcB (by with_unfolding_all rfl) (by first | assumption | solve_by_elim [Sl.le, GH.le_trans, Own.sl]) (by with_unfolding_all rfl) (by with_unfolding_all rfl) (by omega) (by omega) (by first | omega | (simp only [List.length_cons, List.length_nil, List.length_drop, List.length_take, List.length_append]; omega) | (simp; omega)) ?_ | refine o_slcB01 (by with_unfolding_all rfl) (by first | assumption | solve_by_elim [Sl.le, GH.le_trans, Own.sl]) (by with_unfolding_all rfl) (by omega) (by first | omega | (simp only [List.length_cons, List.length_nil, List.length_drop, List.length_take, List.length_append]; omega) | (simp; omega)) ?_ | refine o_slcB10 (by with_unfolding_all rfl) (by first | assumption | solve_by_elim [Sl.le, GH.le_trans, Own.sl]) (by with_unfolding_all rfl) (by omega) (by first | omega | (simp only [List.length_cons, List.length_nil, List.length_drop, List.length_take, List.length_append]; omega) | (simp; omega)) ?_); intro us hus hbs) | (with_reducible refine o_saddB (by with_unfolding_all rfl) (by with_unfolding_all rfl) (by first | omega | (simp only [List.length_cons, List.length_nil, List.length_drop, List.length_take, List.length_append]; omega) | (simp; omega)) ?_) | (with_reducible refine o_lindex (by with_unfolding_all rfl) (by with_unfolding_all rfl) (by constructor <;> omega) (by ((first | simp only [x_take1, List.getElem?_toArray, List.getElem?_cons_zero, List.getElem?_cons_succ, Int.reduceToNat, Int.reduceAdd, Int.reduceSub, Int.reduceMul, Int.zero_add, Int.add_zero, Int.mul_one, Int.natCast_one, Int.cast_ofNat_Int, Int.toNat_natCast, x_cells_i, x_cells_b, x_cells_s, x_cells_l, x_cells_p, x_cells_a] | skip); (first | done | rfl))) ?_) | (with_reducible refine o_lalloc (by with_unfolding_all rfl) (by with_unfolding_all rfl) ?_) | (with_reducible refine o_lbox (by with_unfolding_all rfl) (by with_unfolding_all rfl) (by with_unfolding_all rfl) (by ((first | simp only [x_take1, List.getElem?_toArray, List.getElem?_cons_zero, List.getElem?_cons_succ, Int.reduceToNat, Int.reduceAdd, Int.reduceSub, Int.reduceMul, Int.zero_add, Int.add_zero, Int.mul_one, Int.natCast_one, Int.cast_ofNat_Int, Int.toNat_natCast, x_cells_i, x_cells_b, x_cells_s, x_cells_l, x_cells_p, x_cells_a] | skip); (first | done | rfl))) ?_) | (with_reducible refine o_lmove (by with_unfolding_all rfl) ?_) | (with_reducible refine o_lstoreA (by with_unfolding_all rfl) (by with_unfolding_all rfl) (by with_unfolding_all rfl) (by with_unfolding_all rfl) (by with_unfolding_all rfl) (by with_unfolding_all rfl) (by with_unfolding_all rfl) ?_) | (with_reducible refine o_lstore (by with_unfolding_all rfl) (by with_unfolding_all rfl) (by with_unfolding_all rfl) (by with_unfolding_all rfl) ⟨(by with_unfolding_all rfl), (Nat.le_of_ble_eq_true (by with_unfolding_all rfl)), (by with_unfolding_all rfl)⟩ (by simp only [wr, Int.reduceToNat, List.setIfInBounds_toArray, List.set_cons_succ, List.set_cons_zero, Nat.reduceAdd]; first | done | rfl) ?_) | (with_reducible refine o_pure (by with_unfolding_all rfl) (by exact x_build (by with_unfolding_all rfl) (by with_unfolding_all rfl) (by with_unfolding_all rfl)) ?_) | (with_reducible refine o_pure (by with_unfolding_all rfl) (by exact x_buildP (by with_unfolding_all rfl) (by simp only [buildL, List.setIfInBounds_toArray, List.set_cons_succ, List.set_cons_zero]; first | done | rfl)) ?_) | (with_reducible refine o_callp (by with_unfolding_all rfl) (by first | exact leap12 _ _) ?_) | ((with_reducible refine o_callg (by with_unfolding_all rfl) (by first | exact leap12 _ _) ?_); intro G' hle)) | (with_reducible refine i_vc ?_; first | (with_reducible refine v_seq ?_) | (with_reducible refine v_ops ?_) | (with_reducible refine v_cond_t (by with_unfolding_all rfl) (by with_reducible rfl) ?_) | (with_reducible refine v_cond_f (by with_unfolding_all rfl) (by with_reducible rfl) ?_) | (with_reducible refine v_block ?_) | (with_reducible refine v_skip ?_) | (with_reducible refine v_exit ?_) | (with_reducible refine v_ret ?_) | (with_reducible refine v_drawl (by with_unfolding_all rfl) ?_) | (with_reducible refine v_draw0 ?_) | (with_reducible refine v_scope ?_)) | (with_reducible refine i_plan ?_; first | (with_reducible refine p_done ?_) | (with_reducible refine p_pre (by with_unfolding_all rfl) ?_) | (with_reducible refine p_preN (by with_unfolding_all rfl) (by with_unfolding_all rfl) ?_) | (with_reducible refine p_ag_t (by with_unfolding_all rfl) (by with_reducible rfl) ?_) | (with_reducible refine p_ag_f (by with_unfolding_all rfl) (by with_reducible first | exact x_isBft | exact x_isBtf | exact x_isBu _) ?_ p_no) | (with_reducible refine p_callp (by with_unfolding_all rfl) (by first | exact leap12 _ _) (by first | exact GH.le_refl _ | solve_by_elim [GH.le_trans]) ?_ p_no) | ((with_reducible refine p_callg (by with_unfolding_all rfl) (by first | exact leap12 _ _) (by first | exact GH.le_refl _ | solve_by_elim [GH.le_trans]) ?_ p_no); intro G' hle)) | (with_reducible refine n_then ?_) | (with_reducible refine r_then ?_) | (with_reducible refine e_then ?_) | (with_reducible refine n_block ?_) | (with_reducible refine r_block ?_) | (with_reducible refine e_block_eq (by with_unfolding_all rfl) ?_) | (with_reducible refine e_block_ne (by with_unfolding_all rfl) ?_) | (with_reducible refine n_scope ?_) | (with_reducible refine r_scope ?_) | (with_reducible refine e_scope ?_) | ((first | (with_reducible refine o_g_c (by with_unfolding_all rfl) ?_ ?_) | (with_reducible refine v_cond_c (by with_unfolding_all rfl) ?_ ?_) | (with_reducible refine p_tg_c (by with_unfolding_all rfl) ?_ ?_) | (with_reducible refine p_ag_c (by with_unfolding_all rfl) ?_ ?_)) <;> intro hb <;> rw [hb] <;> (try simp only [decide_eq_true_eq, decide_eq_false_iff_not, beq_iff_eq, bne_iff_ne, beq_eq_false_iff_ne, bne_eq_false_iff_eq, ne_eq, Int.not_lt, Int.not_le, gt_iff_lt, ge_iff_le, Bool.not_eq_true', Bool.not_eq_false'] at hb)) | ((first | (with_reducible refine q_ret (by with_unfolding_all rfl) ?_) | (with_reducible refine q_normal (by with_unfolding_all rfl) ?_)); simp only [x_tup0, x_tup1, x_tup2, x_tup3, x_tup4, x_tup5, and_true, true_and])))
  · rw [leapN_t hb]; rfl
  · rw [leapN_f hb]; rfl
end Go.Proofs.Ytigefimonifpmaa.V
