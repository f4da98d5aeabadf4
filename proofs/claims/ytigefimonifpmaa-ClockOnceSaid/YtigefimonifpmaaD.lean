/- Times in the calendar: what they are. -/
import Derived.Test.YtigefimonifpmaaC
set_option linter.unusedSimpArgs false
set_option linter.unusedVariables false
namespace Go.Proofs.Ytigefimonifpmaa.V
open Go.RowKit Go.ChangeShapes Go.WideShapes
theorem leapN_eq (y : Int) : leapN y = if (y % 4 = 0 ∧ (y % 100 ≠ 0 ∨ y % 400 = 0)) then 1 else 0 := by
  unfold leapN; rw [leap_eq]; simp only [decide_eq_true_eq]
theorem sum12 (y : Int) : sumM y 12 = 365 + leapN y := by
  unfold leapN
  cases h : leap y <;> simp [sumM, mdays, h]
theorem sumM_le (y : Int) : ∀ {a b : Nat}, a ≤ b → sumM y a ≤ sumM y b := by
  intro a b h
  induction h with
  | refl => exact Int.le_refl _
  | @step m h ih => have := mdays_nn y ((m : Int) + 1); simp only [sumM]; exact Int.le_trans ih (Int.le_add_of_nonneg_right this.1)
theorem ahead_lt {y z : Int} (h : y < z) : ahead (y + 1) ≤ ahead z := by unfold ahead; omega
theorem ahead_400 (q : Int) : ahead (1950 + 400 * q) = ahead 1950 + 146097 * q := by unfold ahead; omega
/-- The seconds of a time in the calendar. -/
def secOf (y mo d h mi s : Int) : Int := dayNo y mo d * 86400 + h * 3600 + mi * 60 + s
theorem mon_of_ok {y mo d : Int} (h1 : 1 ≤ d) (h2 : d ≤ mdays y mo) : 1 ≤ mo ∧ mo ≤ 12 := by
  have : 1 ≤ mdays y mo := by omega
  unfold mdays at this
  split at this <;> omega
theorem day_in {y mo d : Int} (h1 : 1 ≤ d) (h2 : d ≤ mdays y mo) : 0 ≤ sumM y (mo - 1).toNat + d - 1 ∧ sumM y (mo - 1).toNat + d - 1 < 365 + leapN y := by
  have hm := mon_of_ok h1 h2
  have a := sumM_nn y (mo - 1).toNat
  have b := sumM_succ y hm.1
  have c := sumM_le y (a := (mo + 1 - 1).toNat) (b := 12) (by omega)
  rw [sum12] at c
  omega
/-- A day has one place in the calendar. -/
theorem dayNo_inj {y mo d y' mo' d' : Int} (h1 : 1 ≤ d) (h2 : d ≤ mdays y mo) (h1' : 1 ≤ d') (h2' : d' ≤ mdays y' mo') (h : dayNo y mo d = dayNo y' mo' d') : y = y' ∧ mo = mo' ∧ d = d' := by
  have hm := mon_of_ok h1 h2
  have hm' := mon_of_ok h1' h2'
  have a := day_in h1 h2
  have a' := day_in h1' h2'
  have b := ahead_succ y
  have b' := ahead_succ y'
  unfold dayNo at h
  have hy : y = y' := by
    rcases Int.lt_trichotomy y y' with l | l | l
    · have := ahead_lt l; omega
    · exact l
    · have := ahead_lt l; omega
  subst hy
  have hmo : mo = mo' := by
    rcases Int.lt_trichotomy mo mo' with l | l | l
    · have e := sumM_le y (a := (mo + 1 - 1).toNat) (b := (mo' - 1).toNat) (by omega)
      rw [sumM_succ y hm.1] at e; omega
    · exact l
    · have e := sumM_le y (a := (mo' + 1 - 1).toNat) (b := (mo - 1).toNat) (by omega)
      rw [sumM_succ y hm'.1] at e; omega
  subst hmo
  exact ⟨rfl, rfl, by omega⟩
theorem secOf_inj {y mo d h mi s y' mo' d' h' mi' s' : Int} (o : okC y mo d h mi s) (o' : okC y' mo' d' h' mi' s') (e : secOf y mo d h mi s = secOf y' mo' d' h' mi' s') : y = y' ∧ mo = mo' ∧ d = d' ∧ h = h' ∧ mi = mi' ∧ s = s' := by
  obtain ⟨_, _, o1, o2, o3, o4, o5, o6, o7, o8⟩ := o
  obtain ⟨_, _, p1, p2, p3, p4, p5, p6, p7, p8⟩ := o'
  unfold secOf at e
  have e1 : dayNo y mo d = dayNo y' mo' d' := by omega
  obtain ⟨q1, q2, q3⟩ := dayNo_inj o1 o2 p1 p2 e1
  exact ⟨q1, q2, q3, by omega, by omega, by omega⟩
/-- A time. -/
def isT (t : Int) : Prop := -631152000 ≤ t ∧ t ≤ 253402300799
instance (t : Int) : Decidable (isT t) := by unfold isT; infer_instance
theorem ahead_vals : ahead 1950 = 711857 ∧ ahead 1970 = 719162 ∧ ahead 10000 = 3652059 := by decide
/-- The place in the calendar, if there is one. -/
structure CivOf (t y mo d h mi s : Int) : Prop where
  ok : okC y mo d h mi s
  sec : secOf y mo d h mi s = t
theorem CivOf.uniq {t y mo d h mi s y' mo' d' h' mi' s' : Int} (o : CivOf t y mo d h mi s) (o' : CivOf t y' mo' d' h' mi' s') : y = y' ∧ mo = mo' ∧ d = d' ∧ h = h' ∧ mi = mi' ∧ s = s' := secOf_inj o.ok o'.ok (o.sec.trans o'.sec.symm)
theorem CivOf.isT {t y mo d h mi s : Int} (o : CivOf t y mo d h mi s) : V.isT t := by
  obtain ⟨⟨k1, k2, o1, o2, o3, o4, o5, o6, o7, o8⟩, e⟩ := o
  have a := day_in o1 o2
  have v := ahead_vals
  have b : ahead (y + 1) ≤ ahead 10000 := by unfold ahead; omega
  have c : ahead 1950 ≤ ahead y := by unfold ahead; omega
  have b' := ahead_succ y
  unfold secOf dayNo at e
  unfold V.isT
  omega
theorem length33 (y : Int) (G : GH) : HC Try.prog 33 #[.int .i64 y] G fun v G' => v = .int .i64 (365 + leapN y) ∧ G' = G := by
  refine HC.start comp33 rfl ?_; unfold pc33
  (repeat' (first | (with_reducible refine i_ops ?_; first | (refine g_mv ?_; refine s_mv ?_) | refine o_nil ?_ | (refine g_some ?_; first | refine s_g_t ?_ | refine s_g_f ?_ | refine s_g_f' ?_ | refine s_g_u ?_) | (refine g_pick ?_; first | refine s_pick_t ?_ | refine s_pick_f ?_) | (refine g_len ?_; first | refine s_lenB ?_ | refine s_pure ?_) | (refine g_idx ?_; first | (refine s_idxOB ?_; intro p hp hpw) | (refine s_idxB ?_; intro p hp)) | (refine g_slc ?_; ((first | refine s_slcB ?_ | refine s_slcB01 ?_ | refine s_slcB10 ?_); intro us hus hbs)) | (refine g_build ?_; first | refine s_build ?_ | refine s_buildP ?_) | (refine g_pure ?_; first | refine s_pure ?_ | refine s_saddB ?_) | (refine g_lfield ?_; refine s_lfield ?_) | (refine g_lload ?_; refine s_lload ?_) | (refine g_lstore ?_; first | refine s_lstoreA ?_ | refine s_lstore ?_) | (refine g_lindex ?_; refine s_lindex ?_) | (refine g_lalloc ?_; refine s_lalloc ?_) | (refine g_lbox ?_; refine s_lbox ?_) | (refine g_lmove ?_; refine s_lmove ?_) | (refine g_hload ?_; refine s_hloadP ?_) | (refine g_hstore ?_; (refine s_hstoreB ?_; intro G' hle ho hkp)) | (refine g_b2s ?_; refine s_b2sB ?_) | refine o_callp (by with_unfolding_all rfl) (by first | exact leap12 _ _) ?_ | (refine o_callg (by with_unfolding_all rfl) (by first | exact leap12 _ _) ?_; intro G' hle)) | (with_reducible refine i_vc ?_; first | refine v_seq ?_ | refine v_ops ?_ | (refine g_cond ?_; first | refine s_cond_t ?_ | refine s_cond_f ?_) | refine v_block ?_ | refine v_skip ?_ | refine v_exit ?_ | refine v_ret ?_ | refine s_drawl ?_ | refine v_draw0 ?_ | refine v_scope ?_) | (with_reducible refine i_plan ?_; first | refine p_done ?_ | refine s_pre ?_ | refine s_preN ?_ | refine s_ag_t ?_ | refine s_ag_f ?_ | refine p_callp (by with_unfolding_all rfl) (by first | exact leap12 _ _) (by first | assumption | exact GH.le_refl _ | ((repeat (first | exact GH.le_refl _ | assumption | refine GH.le_trans ?_ (by assumption))); first | done | fail)) ?_ p_no | (refine p_callg (by with_unfolding_all rfl) (by first | exact leap12 _ _) (by first | assumption | exact GH.le_refl _ | ((repeat (first | exact GH.le_refl _ | assumption | refine GH.le_trans ?_ (by assumption))); first | done | fail)) ?_ p_no; intro G' hle) | refine s_alt ?_) | (with_reducible first | refine n_then ?_ | refine r_then ?_ | refine e_then ?_ | refine n_block ?_ | refine r_block ?_ | refine e_block_eq (by with_unfolding_all rfl) ?_ | refine e_block_ne (by with_unfolding_all rfl) ?_ | refine n_scope ?_ | refine r_scope ?_ | refine e_scope ?_ | (refine g_stand ?_; first | refine s_stand ?_ | refine s_standL ?_)) | ((with_reducible first | refine s_g_c ?_ ?_ | refine s_cond_c ?_ ?_ | refine s_tg_c ?_ ?_ | refine s_ag_c ?_ ?_) <;> intro hb <;> rw [hb] <;> (try simp only [decide_eq_true_eq, decide_eq_false_iff_not, beq_iff_eq, bne_iff_ne, beq_eq_false_iff_ne, bne_eq_false_iff_eq, ne_eq, Int.not_lt, Int.not_le, gt_iff_lt, ge_iff_le, Bool.not_eq_true', Bool.not_eq_false'] at hb)) | ((with_reducible first | refine s_ret ?_ | refine s_normal ?_); try simp only [x_tup0, x_tup1, x_tup2, x_tup3, x_tup4, x_tup5, and_true, true_and])))
  · rw [leapN_t hb]; rfl
  · rw [leapN_f hb]; rfl
end Go.Proofs.Ytigefimonifpmaa.V
