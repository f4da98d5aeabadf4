/- What is wrong with a file's name; Remove, Replace, Cut. -/
import Derived.Test.YtbmhdmkmnhaffaaSYZDMEC
section
set_option linter.unusedVariables false
set_option linter.unusedSimpArgs false
-- @pre g_hload s_hbx s_d0 s_d1 s_d2 s_d3 s_d4 s_d5 s_d6
-- @extra s_nilPf s_nilPt s_nilNf s_nilNt s_nilck s_fptr0 s_seq0 s_lenSB
namespace Go.Proofs.Ytbmhdmkmnhaffaa.V
open Go.RowKit Go.ChangeShapes Go.WideShapes
/-- A look-up that tells whether there is one. -/
theorem MR.lookT {I : GH} {m : AM} {fs : Fis} (h : MR I m fs) (s : Nm) : ∃ v, lookV true (.slice none 0 0) (lkI s m 0) = .tuple #[v, .bool (fget s fs).isSome] ∧ By I v (fg s fs) := by
  have e := lkI_lk s m 0
  unfold fg
  rcases h s with ⟨v, bs, h1, h2, h3⟩ | ⟨h1, h2⟩
  · rw [h1] at e
    rw [h2]
    cases hq : lkI s m 0 with
    | none => rw [hq] at e; cases e
    | some r =>
      rw [hq] at e
      have e' : r.2 = v := by simpa using e
      refine ⟨v, ?_, h3⟩
      rw [← e']
      rfl
  · rw [h1] at e
    rw [h2]
    cases hq : lkI s m 0 with
    | none => exact ⟨_, rfl, Sl.nil 1 I⟩
    | some r => rw [hq] at e; cases e
section
variable {N : Nat} {I G : GH} {b mb : Nat} {us : Value} {A : AD}
theorem thereP (h : PD N I G b mb us A) (s : Nm) (hs : s.length ≤ 4611686018427387904) : HC Try.prog 47 #[pt b, sv s] G fun v G' => v = .int .i64 (A.there s) ∧ G.le G' := by
  have c1 := powerP h
  obtain ⟨lb, t, q1, q2⟩ := h.cell
  obtain ⟨mo, m, n1, n2, n3⟩ := h.now
  refine HC.start comp47 rfl ?_; unfold pc47
  cases hg : A.gone with
  | true =>
    have e1 : A.there s = 232 := by unfold AD.there; rw [hg]; rfl
    have e2 : A.err = 232 := by unfold AD.err; rw [hg]; rfl
    rw [e1]
    rw [e2] at c1
    (repeat' (first | (with_reducible refine i_ops ?_; first | (refine g_mv ?_; refine s_mv ?_) | refine o_nil ?_ | (refine g_pure ?_; first | refine s_nilPf ?_ | refine s_nilPt ?_ | refine s_nilNf ?_ | refine s_nilNt ?_ | refine s_nilck ?_ | refine s_fptr0 ?_ | refine s_seq0 ?_ | refine s_lenSB ?_ | refine s_pure ?_ | refine s_saddB ?_) | (refine g_hload ?_; first | refine s_hbx ?_ | refine s_d0 ?_ | refine s_d1 ?_ | refine s_d2 ?_ | refine s_d3 ?_ | refine s_d4 ?_ | refine s_d5 ?_ | refine s_d6 ?_ | refine s_hloadP ?_) | refine o_callp qrf (by first | exact c1) ?_ | (refine o_callg qrf (by first | exact c1) ?_; intro G' hle)) | (with_reducible refine i_vc ?_; first | refine v_seq ?_ | refine v_ops ?_ | (refine g_cond ?_; first | refine s_cond_t ?_ | refine s_cond_f ?_) | refine v_skip ?_ | refine v_ret ?_) | (with_reducible first | refine n_then ?_ | refine r_then ?_ | refine e_then ?_) | ((with_reducible first | refine s_cond_c ?_ ?_) <;> intro hb <;> rw [hb] <;> (try simp only [decide_eq_true_eq, decide_eq_false_iff_not, beq_iff_eq, bne_iff_ne, beq_eq_false_iff_ne, bne_eq_false_iff_eq, ne_eq, Int.not_lt, Int.not_le, gt_iff_lt, ge_iff_le, Bool.not_eq_true', Bool.not_eq_false'] at hb)) | ((with_reducible first | refine s_ret ?_ | refine s_normal ?_); try simp only [x_tup0, x_tup1, x_tup2, x_tup3, x_tup4, x_tup5, and_true, true_and])))
    exact GH.le_refl _
  | false =>
    have e2 : A.err = 0 := by unfold AD.err; rw [hg]; rfl
    rw [e2] at c1
    (repeat' (first | (with_reducible refine i_ops ?_; first | (refine g_mv ?_; refine s_mv ?_) | refine o_nil ?_ | (refine g_pure ?_; first | refine s_nilPf ?_ | refine s_nilPt ?_ | refine s_nilNf ?_ | refine s_nilNt ?_ | refine s_nilck ?_ | refine s_fptr0 ?_ | refine s_seq0 ?_ | refine s_lenSB ?_ | refine s_pure ?_ | refine s_saddB ?_) | (refine g_hload ?_; first | refine s_hbx ?_ | refine s_d0 ?_ | refine s_d1 ?_ | refine s_d2 ?_ | refine s_d3 ?_ | refine s_d4 ?_ | refine s_d5 ?_ | refine s_d6 ?_ | refine s_hloadP ?_) | refine o_callp qrf (by first | exact c1) ?_ | (refine o_callg qrf (by first | exact c1) ?_; intro G' hle)) | (with_reducible refine i_vc ?_; first | refine v_seq ?_ | refine v_ops ?_ | (refine g_cond ?_; first | refine s_cond_t ?_ | refine s_cond_f ?_) | refine v_skip ?_ | refine v_ret ?_) | (with_reducible first | refine n_then ?_ | refine r_then ?_ | refine e_then ?_) | ((with_reducible first | refine s_cond_c ?_ ?_) <;> intro hb <;> rw [hb] <;> (try simp only [decide_eq_true_eq, decide_eq_false_iff_not, beq_iff_eq, bne_iff_ne, beq_eq_false_iff_ne, bne_eq_false_iff_eq, ne_eq, Int.not_lt, Int.not_le, gt_iff_lt, ge_iff_le, Bool.not_eq_true', Bool.not_eq_false'] at hb)) | ((with_reducible first | refine s_ret ?_ | refine s_normal ?_); try simp only [x_tup0, x_tup1, x_tup2, x_tup3, x_tup4, x_tup5, and_true, true_and])))
    refine o_callc qrf (namedF s G hs) ?_
    rintro _ G1 ⟨rfl, l1⟩
    have q3 := l1 _ _ q1
    have n4 := l1 _ _ n1
    cases hn : nameOk s with
    | false =>
      have e1 : A.there s = 231 := by unfold AD.there; rw [hg, hn]; rfl
      rw [e1]
      (repeat' (first | (with_reducible refine i_ops ?_; first | (refine g_mv ?_; refine s_mv ?_) | refine o_nil ?_ | (refine g_pure ?_; first | refine s_nilPf ?_ | refine s_nilPt ?_ | refine s_nilNf ?_ | refine s_nilNt ?_ | refine s_nilck ?_ | refine s_fptr0 ?_ | refine s_seq0 ?_ | refine s_lenSB ?_ | refine s_pure ?_ | refine s_saddB ?_) | (refine g_hload ?_; first | refine s_hbx ?_ | refine s_d0 ?_ | refine s_d1 ?_ | refine s_d2 ?_ | refine s_d3 ?_ | refine s_d4 ?_ | refine s_d5 ?_ | refine s_d6 ?_ | refine s_hloadP ?_)) | (with_reducible refine i_vc ?_; first | refine v_seq ?_ | refine v_ops ?_ | (refine g_cond ?_; first | refine s_cond_t ?_ | refine s_cond_f ?_) | refine v_skip ?_ | refine v_ret ?_) | (with_reducible first | refine n_then ?_ | refine r_then ?_ | refine e_then ?_) | ((with_reducible first | refine s_cond_c ?_ ?_) <;> intro hb <;> rw [hb] <;> (try simp only [decide_eq_true_eq, decide_eq_false_iff_not, beq_iff_eq, bne_iff_ne, beq_eq_false_iff_ne, bne_eq_false_iff_eq, ne_eq, Int.not_lt, Int.not_le, gt_iff_lt, ge_iff_le, Bool.not_eq_true', Bool.not_eq_false'] at hb)) | ((with_reducible first | refine s_ret ?_ | refine s_normal ?_); try simp only [x_tup0, x_tup1, x_tup2, x_tup3, x_tup4, x_tup5, and_true, true_and])))
      exact l1
    | true =>
      obtain ⟨v, e3, _⟩ := n3.lookT s
      (repeat' (first | (with_reducible refine i_ops ?_; first | (refine g_mv ?_; refine s_mv ?_) | refine o_nil ?_ | (refine g_pure ?_; first | refine s_nilPf ?_ | refine s_nilPt ?_ | refine s_nilNf ?_ | refine s_nilNt ?_ | refine s_nilck ?_ | refine s_fptr0 ?_ | refine s_seq0 ?_ | refine s_lenSB ?_ | refine s_pure ?_ | refine s_saddB ?_) | (refine g_hload ?_; first | refine s_hbx ?_ | refine s_d0 ?_ | refine s_d1 ?_ | refine s_d2 ?_ | refine s_d3 ?_ | refine s_d4 ?_ | refine s_d5 ?_ | refine s_d6 ?_ | refine s_hloadP ?_)) | (with_reducible refine i_vc ?_; first | refine v_seq ?_ | refine v_ops ?_ | (refine g_cond ?_; first | refine s_cond_t ?_ | refine s_cond_f ?_) | refine v_skip ?_ | refine v_ret ?_) | (with_reducible first | refine n_then ?_ | refine r_then ?_ | refine e_then ?_) | ((with_reducible first | refine s_cond_c ?_ ?_) <;> intro hb <;> rw [hb] <;> (try simp only [decide_eq_true_eq, decide_eq_false_iff_not, beq_iff_eq, bne_iff_ne, beq_eq_false_iff_ne, bne_eq_false_iff_eq, ne_eq, Int.not_lt, Int.not_le, gt_iff_lt, ge_iff_le, Bool.not_eq_true', Bool.not_eq_false'] at hb)) | ((with_reducible first | refine s_ret ?_ | refine s_normal ?_); try simp only [x_tup0, x_tup1, x_tup2, x_tup3, x_tup4, x_tup5, and_true, true_and])))
      refine o_mlook (s := s) qrf qrf n4 n2 ?_
      rw [e3]
      (repeat' (first | (with_reducible refine i_ops ?_; first | (refine g_mv ?_; refine s_mv ?_) | refine o_nil ?_ | (refine g_pure ?_; first | refine s_nilPf ?_ | refine s_nilPt ?_ | refine s_nilNf ?_ | refine s_nilNt ?_ | refine s_nilck ?_ | refine s_fptr0 ?_ | refine s_seq0 ?_ | refine s_lenSB ?_ | refine s_pure ?_ | refine s_saddB ?_) | (refine g_hload ?_; first | refine s_hbx ?_ | refine s_d0 ?_ | refine s_d1 ?_ | refine s_d2 ?_ | refine s_d3 ?_ | refine s_d4 ?_ | refine s_d5 ?_ | refine s_d6 ?_ | refine s_hloadP ?_)) | (with_reducible refine i_vc ?_; first | refine v_seq ?_ | refine v_ops ?_ | (refine g_cond ?_; first | refine s_cond_t ?_ | refine s_cond_f ?_) | refine v_skip ?_ | refine v_ret ?_) | (with_reducible first | refine n_then ?_ | refine r_then ?_ | refine e_then ?_) | ((with_reducible first | refine s_cond_c ?_ ?_) <;> intro hb <;> rw [hb] <;> (try simp only [decide_eq_true_eq, decide_eq_false_iff_not, beq_iff_eq, bne_iff_ne, beq_eq_false_iff_ne, bne_eq_false_iff_eq, ne_eq, Int.not_lt, Int.not_le, gt_iff_lt, ge_iff_le, Bool.not_eq_true', Bool.not_eq_false'] at hb)) | ((with_reducible first | refine s_ret ?_ | refine s_normal ?_); try simp only [x_tup0, x_tup1, x_tup2, x_tup3, x_tup4, x_tup5, and_true, true_and])))
      · exact ⟨by unfold AD.there; rw [hg, hn, hb]; rfl, l1⟩
      · exact ⟨by unfold AD.there; rw [hg, hn, hb]; rfl, l1⟩
/-- What a call leaves. -/
def Left (N : Nat) (I : GH) (b mb : Nat) (r : AD × Int) (v : Value) (G' : GH) : Prop := v = .int .i64 r.2 ∧ ∃ I' us', I.le I' ∧ PD N I' G' b mb us' r.1
theorem Left.pre {I I' : GH} {r : AD × Int} {v : Value} {G' : GH} (hl : I.le I') (h : Left N I' b mb r v G') : Left N I b mb r v G' := by
  obtain ⟨h1, I2, us', h2, h3⟩ := h
  exact ⟨h1, I2, us', GH.le_trans hl h2, h3⟩
theorem PD.mono {M : Nat} (h : PD N I G b mb us A) (hm : N ≤ M) : PD M I G b mb us A := { h with ok := h.ok.mono hm }
theorem removeP (h : PD N I G b mb us A) (hN : N ≤ 1000000) (s : Nm) (hs : s.length ≤ 4611686018427387904) : HC Try.prog 26 #[pt b, sv s] G fun v G' => Left (N + 1) I b mb (A.remove s) v G' := by
  refine HC.start comp26 rfl ?_; unfold pc26
  (repeat' (first | (with_reducible refine i_ops ?_; first | (refine g_mv ?_; refine s_mv ?_) | refine o_nil ?_ | (refine g_pure ?_; first | refine s_nilPf ?_ | refine s_nilPt ?_ | refine s_nilNf ?_ | refine s_nilNt ?_ | refine s_nilck ?_ | refine s_fptr0 ?_ | refine s_seq0 ?_ | refine s_lenSB ?_ | refine s_pure ?_ | refine s_saddB ?_) | (refine g_hload ?_; first | refine s_hbx ?_ | refine s_d0 ?_ | refine s_d1 ?_ | refine s_d2 ?_ | refine s_d3 ?_ | refine s_d4 ?_ | refine s_d5 ?_ | refine s_d6 ?_ | refine s_hloadP ?_)) | (with_reducible refine i_vc ?_; first | refine v_seq ?_ | refine v_ops ?_ | (refine g_cond ?_; first | refine s_cond_t ?_ | refine s_cond_f ?_) | refine v_skip ?_ | refine v_ret ?_) | (with_reducible first | refine n_then ?_ | refine r_then ?_ | refine e_then ?_) | ((with_reducible first | refine s_cond_c ?_ ?_) <;> intro hb <;> rw [hb] <;> (try simp only [decide_eq_true_eq, decide_eq_false_iff_not, beq_iff_eq, bne_iff_ne, beq_eq_false_iff_ne, bne_eq_false_iff_eq, ne_eq, Int.not_lt, Int.not_le, gt_iff_lt, ge_iff_le, Bool.not_eq_true', Bool.not_eq_false'] at hb)) | ((with_reducible first | refine s_ret ?_ | refine s_normal ?_); try simp only [x_tup0, x_tup1, x_tup2, x_tup3, x_tup4, x_tup5, and_true, true_and])))
  refine o_hboxV qrf rfl ?_
  intro nb G1 hnb l1 hb1 _
  have p1 := h.grow l1
  have hI1 : (addF I G G1) nb = some (bx (sv s) 9) := by rw [addF_new (le_none h.le hnb) hnb]; exact hb1
  have c1 := thereP p1 s hs
  (repeat' (first | (with_reducible refine i_ops ?_; first | (refine g_mv ?_; refine s_mv ?_) | refine o_nil ?_ | (refine g_pure ?_; first | refine s_nilPf ?_ | refine s_nilPt ?_ | refine s_nilNf ?_ | refine s_nilNt ?_ | refine s_nilck ?_ | refine s_fptr0 ?_ | refine s_seq0 ?_ | refine s_lenSB ?_ | refine s_pure ?_ | refine s_saddB ?_) | (refine g_hload ?_; first | refine s_hbx ?_ | refine s_d0 ?_ | refine s_d1 ?_ | refine s_d2 ?_ | refine s_d3 ?_ | refine s_d4 ?_ | refine s_d5 ?_ | refine s_d6 ?_ | refine s_hloadP ?_)) | (with_reducible refine i_vc ?_; first | refine v_seq ?_ | refine v_ops ?_ | (refine g_cond ?_; first | refine s_cond_t ?_ | refine s_cond_f ?_) | refine v_skip ?_ | refine v_ret ?_) | (with_reducible first | refine n_then ?_ | refine r_then ?_ | refine e_then ?_) | ((with_reducible first | refine s_cond_c ?_ ?_) <;> intro hb <;> rw [hb] <;> (try simp only [decide_eq_true_eq, decide_eq_false_iff_not, beq_iff_eq, bne_iff_ne, beq_eq_false_iff_ne, bne_eq_false_iff_eq, ne_eq, Int.not_lt, Int.not_le, gt_iff_lt, ge_iff_le, Bool.not_eq_true', Bool.not_eq_false'] at hb)) | ((with_reducible first | refine s_ret ?_ | refine s_normal ?_); try simp only [x_tup0, x_tup1, x_tup2, x_tup3, x_tup4, x_tup5, and_true, true_and])))
  refine o_callc qrf c1 ?_
  rintro _ G2 ⟨rfl, l2⟩
  have p2 := p1.up l2
  (repeat' (first | (with_reducible refine i_ops ?_; first | (refine g_mv ?_; refine s_mv ?_) | refine o_nil ?_ | (refine g_pure ?_; first | refine s_nilPf ?_ | refine s_nilPt ?_ | refine s_nilNf ?_ | refine s_nilNt ?_ | refine s_nilck ?_ | refine s_fptr0 ?_ | refine s_seq0 ?_ | refine s_lenSB ?_ | refine s_pure ?_ | refine s_saddB ?_) | (refine g_hload ?_; first | refine s_hbx ?_ | refine s_d0 ?_ | refine s_d1 ?_ | refine s_d2 ?_ | refine s_d3 ?_ | refine s_d4 ?_ | refine s_d5 ?_ | refine s_d6 ?_ | refine s_hloadP ?_)) | (with_reducible refine i_vc ?_; first | refine v_seq ?_ | refine v_ops ?_ | (refine g_cond ?_; first | refine s_cond_t ?_ | refine s_cond_f ?_) | refine v_skip ?_ | refine v_ret ?_) | (with_reducible first | refine n_then ?_ | refine r_then ?_ | refine e_then ?_) | ((with_reducible first | refine s_cond_c ?_ ?_) <;> intro hb <;> rw [hb] <;> (try simp only [decide_eq_true_eq, decide_eq_false_iff_not, beq_iff_eq, bne_iff_ne, beq_eq_false_iff_ne, bne_eq_false_iff_eq, ne_eq, Int.not_lt, Int.not_le, gt_iff_lt, ge_iff_le, Bool.not_eq_true', Bool.not_eq_false'] at hb)) | ((with_reducible first | refine s_ret ?_ | refine s_normal ?_); try simp only [x_tup0, x_tup1, x_tup2, x_tup3, x_tup4, x_tup5, and_true, true_and])))
  · have e : A.remove s = (A, A.there s) := by unfold AD.remove; rw [if_neg hb]
    rw [e]
    exact ⟨rfl, _, us, addF_le _ _ _, p2.mono (Nat.le_succ _)⟩
  · have e : A.remove s = (A.does (.rem s), (A.does (.rem s)).err) := by unfold AD.remove; rw [if_pos hb]
    rw [e]
    refine o_pure (v := .func (.func 54) #[] #[pt nb]) qrf rfl ?_
    have c2 := doesP p2 hN (u := .rem s) ⟨nb, 9, rfl, hI1⟩ trivial ((fine_del h.ok.nf s).mono (Nat.le_succ _))
    (repeat' (first | (with_reducible refine i_ops ?_; first | (refine g_mv ?_; refine s_mv ?_) | refine o_nil ?_ | (refine g_pure ?_; first | refine s_nilPf ?_ | refine s_nilPt ?_ | refine s_nilNf ?_ | refine s_nilNt ?_ | refine s_nilck ?_ | refine s_fptr0 ?_ | refine s_seq0 ?_ | refine s_lenSB ?_ | refine s_pure ?_ | refine s_saddB ?_) | (refine g_hload ?_; first | refine s_hbx ?_ | refine s_d0 ?_ | refine s_d1 ?_ | refine s_d2 ?_ | refine s_d3 ?_ | refine s_d4 ?_ | refine s_d5 ?_ | refine s_d6 ?_ | refine s_hloadP ?_)) | (with_reducible refine i_vc ?_; first | refine v_seq ?_ | refine v_ops ?_ | (refine g_cond ?_; first | refine s_cond_t ?_ | refine s_cond_f ?_) | refine v_skip ?_ | refine v_ret ?_) | (with_reducible first | refine n_then ?_ | refine r_then ?_ | refine e_then ?_) | ((with_reducible first | refine s_cond_c ?_ ?_) <;> intro hb <;> rw [hb] <;> (try simp only [decide_eq_true_eq, decide_eq_false_iff_not, beq_iff_eq, bne_iff_ne, beq_eq_false_iff_ne, bne_eq_false_iff_eq, ne_eq, Int.not_lt, Int.not_le, gt_iff_lt, ge_iff_le, Bool.not_eq_true', Bool.not_eq_false'] at hb)) | ((with_reducible first | refine s_ret ?_ | refine s_normal ?_); try simp only [x_tup0, x_tup1, x_tup2, x_tup3, x_tup4, x_tup5, and_true, true_and])))
    refine o_callc qrf c2 ?_
    rintro _ G3 ⟨rfl, I3, us3, l3, p3⟩
    (repeat' (first | (with_reducible refine i_ops ?_; first | (refine g_mv ?_; refine s_mv ?_) | refine o_nil ?_ | (refine g_pure ?_; first | refine s_nilPf ?_ | refine s_nilPt ?_ | refine s_nilNf ?_ | refine s_nilNt ?_ | refine s_nilck ?_ | refine s_fptr0 ?_ | refine s_seq0 ?_ | refine s_lenSB ?_ | refine s_pure ?_ | refine s_saddB ?_) | (refine g_hload ?_; first | refine s_hbx ?_ | refine s_d0 ?_ | refine s_d1 ?_ | refine s_d2 ?_ | refine s_d3 ?_ | refine s_d4 ?_ | refine s_d5 ?_ | refine s_d6 ?_ | refine s_hloadP ?_)) | (with_reducible refine i_vc ?_; first | refine v_seq ?_ | refine v_ops ?_ | (refine g_cond ?_; first | refine s_cond_t ?_ | refine s_cond_f ?_) | refine v_skip ?_ | refine v_ret ?_) | (with_reducible first | refine n_then ?_ | refine r_then ?_ | refine e_then ?_) | ((with_reducible first | refine s_cond_c ?_ ?_) <;> intro hb <;> rw [hb] <;> (try simp only [decide_eq_true_eq, decide_eq_false_iff_not, beq_iff_eq, bne_iff_ne, beq_eq_false_iff_ne, bne_eq_false_iff_eq, ne_eq, Int.not_lt, Int.not_le, gt_iff_lt, ge_iff_le, Bool.not_eq_true', Bool.not_eq_false'] at hb)) | ((with_reducible first | refine s_ret ?_ | refine s_normal ?_); try simp only [x_tup0, x_tup1, x_tup2, x_tup3, x_tup4, x_tup5, and_true, true_and])))
    exact ⟨rfl, I3, us3, GH.le_trans (addF_le _ _ _) l3, p3⟩
end
end Go.Proofs.Ytbmhdmkmnhaffaa.V
end
section
/- Replace, Cut. -/
set_option linter.unusedVariables false
set_option linter.unusedSimpArgs false
-- @pre g_hload s_hbx s_d0 s_d1 s_d2 s_d3 s_d4 s_d5 s_d6
-- @extra s_nilPf s_nilPt s_nilNf s_nilNt s_nilck s_fptr0 s_seq0 s_lenSB
namespace Go.Proofs.Ytbmhdmkmnhaffaa.V
open Go.RowKit Go.ChangeShapes Go.WideShapes
theorem replE_eq (A : AD) (s s' : Nm) : A.replE s s' = if A.there s = 0 ∨ A.there s = 70 then (if nameOk s' then A.there s else 231) else A.there s := by
  unfold AD.replE AD.there
  cases A.gone <;> cases nameOk s <;> cases nameOk s' <;> cases (fget s A.now).isSome <;> decide
theorem repl_no {A : AD} {s s' : Nm} (h : A.replE s s' ≠ 0) : A.replace s s' = (A, A.replE s s') := by unfold AD.replace; rw [if_neg h]
section
variable {N : Nat} {I G : GH} {b mb : Nat} {us : Value} {A : AD}
theorem replaceP (h : PD N I G b mb us A) (hN : N ≤ 1000000) (s s' : Nm) (hs : s.length ≤ 4611686018427387904) (hs' : s'.length ≤ 4611686018427387904) : HC Try.prog 25 #[pt b, sv s, sv s'] G fun v G' => Left (N + 1) I b mb (A.replace s s') v G' := by
  refine HC.start comp25 rfl ?_; unfold pc25
  (repeat' (first | (with_reducible refine i_ops ?_; first | (refine g_mv ?_; refine s_mv ?_) | refine o_nil ?_ | (refine g_some ?_; first | refine s_g_t ?_ | refine s_g_f ?_ | refine s_g_f' ?_ | refine s_g_u ?_) | (refine g_pick ?_; first | refine s_pick_t ?_ | refine s_pick_f ?_) | (refine g_pure ?_; first | refine s_nilPf ?_ | refine s_nilPt ?_ | refine s_nilNf ?_ | refine s_nilNt ?_ | refine s_nilck ?_ | refine s_fptr0 ?_ | refine s_seq0 ?_ | refine s_lenSB ?_ | refine s_pure ?_ | refine s_saddB ?_) | (refine g_hload ?_; first | refine s_hbx ?_ | refine s_d0 ?_ | refine s_d1 ?_ | refine s_d2 ?_ | refine s_d3 ?_ | refine s_d4 ?_ | refine s_d5 ?_ | refine s_d6 ?_ | refine s_hloadP ?_)) | (with_reducible refine i_vc ?_; first | refine v_seq ?_ | refine v_ops ?_ | (refine g_cond ?_; first | refine s_cond_t ?_ | refine s_cond_f ?_) | refine v_skip ?_ | refine v_ret ?_) | (with_reducible first | refine n_then ?_ | refine r_then ?_ | refine e_then ?_) | ((with_reducible first | refine s_g_c ?_ ?_ | refine s_cond_c ?_ ?_) <;> intro hb <;> rw [hb] <;> (try simp only [decide_eq_true_eq, decide_eq_false_iff_not, beq_iff_eq, bne_iff_ne, beq_eq_false_iff_ne, bne_eq_false_iff_eq, ne_eq, Int.not_lt, Int.not_le, gt_iff_lt, ge_iff_le, Bool.not_eq_true', Bool.not_eq_false'] at hb)) | ((with_reducible first | refine s_ret ?_ | refine s_normal ?_); try simp only [x_tup0, x_tup1, x_tup2, x_tup3, x_tup4, x_tup5, and_true, true_and])))
  refine o_hboxV qrf rfl ?_
  intro nb G1 hnb l1 hb1 _
  (repeat' (first | (with_reducible refine i_ops ?_; first | (refine g_mv ?_; refine s_mv ?_) | refine o_nil ?_ | (refine g_some ?_; first | refine s_g_t ?_ | refine s_g_f ?_ | refine s_g_f' ?_ | refine s_g_u ?_) | (refine g_pick ?_; first | refine s_pick_t ?_ | refine s_pick_f ?_) | (refine g_pure ?_; first | refine s_nilPf ?_ | refine s_nilPt ?_ | refine s_nilNf ?_ | refine s_nilNt ?_ | refine s_nilck ?_ | refine s_fptr0 ?_ | refine s_seq0 ?_ | refine s_lenSB ?_ | refine s_pure ?_ | refine s_saddB ?_) | (refine g_hload ?_; first | refine s_hbx ?_ | refine s_d0 ?_ | refine s_d1 ?_ | refine s_d2 ?_ | refine s_d3 ?_ | refine s_d4 ?_ | refine s_d5 ?_ | refine s_d6 ?_ | refine s_hloadP ?_)) | (with_reducible refine i_vc ?_; first | refine v_seq ?_ | refine v_ops ?_ | (refine g_cond ?_; first | refine s_cond_t ?_ | refine s_cond_f ?_) | refine v_skip ?_ | refine v_ret ?_) | (with_reducible first | refine n_then ?_ | refine r_then ?_ | refine e_then ?_) | ((with_reducible first | refine s_g_c ?_ ?_ | refine s_cond_c ?_ ?_) <;> intro hb <;> rw [hb] <;> (try simp only [decide_eq_true_eq, decide_eq_false_iff_not, beq_iff_eq, bne_iff_ne, beq_eq_false_iff_ne, bne_eq_false_iff_eq, ne_eq, Int.not_lt, Int.not_le, gt_iff_lt, ge_iff_le, Bool.not_eq_true', Bool.not_eq_false'] at hb)) | ((with_reducible first | refine s_ret ?_ | refine s_normal ?_); try simp only [x_tup0, x_tup1, x_tup2, x_tup3, x_tup4, x_tup5, and_true, true_and])))
  refine o_hboxV qrf rfl ?_
  intro nb' G2 hnb' l2 hb2 _
  have l12 := GH.le_trans l1 l2
  have hb1' := l2 _ _ hb1
  have p1 := h.grow l12
  have hI1 : (addF I G G2) nb = some (bx (sv s) 9) := by rw [addF_new (le_none h.le hnb) hnb]; exact hb1'
  have hI2 : (addF I G G2) nb' = some (bx (sv s') 9) := by rw [addF_new (le_none (GH.le_trans h.le l1) hnb') (le_none l1 hnb')]; exact hb2
  have c1 := thereP p1 s hs
  (repeat' (first | (with_reducible refine i_ops ?_; first | (refine g_mv ?_; refine s_mv ?_) | refine o_nil ?_ | (refine g_some ?_; first | refine s_g_t ?_ | refine s_g_f ?_ | refine s_g_f' ?_ | refine s_g_u ?_) | (refine g_pick ?_; first | refine s_pick_t ?_ | refine s_pick_f ?_) | (refine g_pure ?_; first | refine s_nilPf ?_ | refine s_nilPt ?_ | refine s_nilNf ?_ | refine s_nilNt ?_ | refine s_nilck ?_ | refine s_fptr0 ?_ | refine s_seq0 ?_ | refine s_lenSB ?_ | refine s_pure ?_ | refine s_saddB ?_) | (refine g_hload ?_; first | refine s_hbx ?_ | refine s_d0 ?_ | refine s_d1 ?_ | refine s_d2 ?_ | refine s_d3 ?_ | refine s_d4 ?_ | refine s_d5 ?_ | refine s_d6 ?_ | refine s_hloadP ?_)) | (with_reducible refine i_vc ?_; first | refine v_seq ?_ | refine v_ops ?_ | (refine g_cond ?_; first | refine s_cond_t ?_ | refine s_cond_f ?_) | refine v_skip ?_ | refine v_ret ?_) | (with_reducible first | refine n_then ?_ | refine r_then ?_ | refine e_then ?_) | ((with_reducible first | refine s_g_c ?_ ?_ | refine s_cond_c ?_ ?_) <;> intro hb <;> rw [hb] <;> (try simp only [decide_eq_true_eq, decide_eq_false_iff_not, beq_iff_eq, bne_iff_ne, beq_eq_false_iff_ne, bne_eq_false_iff_eq, ne_eq, Int.not_lt, Int.not_le, gt_iff_lt, ge_iff_le, Bool.not_eq_true', Bool.not_eq_false'] at hb)) | ((with_reducible first | refine s_ret ?_ | refine s_normal ?_); try simp only [x_tup0, x_tup1, x_tup2, x_tup3, x_tup4, x_tup5, and_true, true_and])))
  refine o_callc qrf c1 ?_
  rintro _ G3 ⟨rfl, l3⟩
  have p2 := p1.up l3
  have hb1 := l3 _ _ hb1'
  have hb2 := l3 _ _ hb2
  have keep0 : ∀ H : GH, G3.le H → A.replace s s' = (A, A.replE s s') → Left (N + 1) I b mb (A.replace s s') (.int .i64 (A.replE s s')) H := fun H hl e => by
    rw [e]
    exact ⟨rfl, _, us, addF_le _ _ _, (p2.up hl).mono (Nat.le_succ _)⟩
  by_cases t7 : A.there s = 70
  · have er := replE_eq A s s'
    rw [t7, if_pos (.inr rfl)] at er
    rw [t7]
    (repeat' (first | (with_reducible refine i_ops ?_; first | (refine g_mv ?_; refine s_mv ?_) | refine o_nil ?_ | (refine g_some ?_; first | refine s_g_t ?_ | refine s_g_f ?_ | refine s_g_f' ?_ | refine s_g_u ?_) | (refine g_pick ?_; first | refine s_pick_t ?_ | refine s_pick_f ?_) | (refine g_pure ?_; first | refine s_nilPf ?_ | refine s_nilPt ?_ | refine s_nilNf ?_ | refine s_nilNt ?_ | refine s_nilck ?_ | refine s_fptr0 ?_ | refine s_seq0 ?_ | refine s_lenSB ?_ | refine s_pure ?_ | refine s_saddB ?_) | (refine g_hload ?_; first | refine s_hbx ?_ | refine s_d0 ?_ | refine s_d1 ?_ | refine s_d2 ?_ | refine s_d3 ?_ | refine s_d4 ?_ | refine s_d5 ?_ | refine s_d6 ?_ | refine s_hloadP ?_)) | (with_reducible refine i_vc ?_; first | refine v_seq ?_ | refine v_ops ?_ | (refine g_cond ?_; first | refine s_cond_t ?_ | refine s_cond_f ?_) | refine v_skip ?_ | refine v_ret ?_) | (with_reducible first | refine n_then ?_ | refine r_then ?_ | refine e_then ?_) | ((with_reducible first | refine s_g_c ?_ ?_ | refine s_cond_c ?_ ?_) <;> intro hb <;> rw [hb] <;> (try simp only [decide_eq_true_eq, decide_eq_false_iff_not, beq_iff_eq, bne_iff_ne, beq_eq_false_iff_ne, bne_eq_false_iff_eq, ne_eq, Int.not_lt, Int.not_le, gt_iff_lt, ge_iff_le, Bool.not_eq_true', Bool.not_eq_false'] at hb)) | ((with_reducible first | refine s_ret ?_ | refine s_normal ?_); try simp only [x_tup0, x_tup1, x_tup2, x_tup3, x_tup4, x_tup5, and_true, true_and])))
    refine o_callc qrf (namedF s' G3 hs') ?_
    rintro _ G4 ⟨rfl, l4⟩
    (repeat' (first | (with_reducible refine i_ops ?_; first | (refine g_mv ?_; refine s_mv ?_) | refine o_nil ?_ | (refine g_some ?_; first | refine s_g_t ?_ | refine s_g_f ?_ | refine s_g_f' ?_ | refine s_g_u ?_) | (refine g_pick ?_; first | refine s_pick_t ?_ | refine s_pick_f ?_) | (refine g_pure ?_; first | refine s_nilPf ?_ | refine s_nilPt ?_ | refine s_nilNf ?_ | refine s_nilNt ?_ | refine s_nilck ?_ | refine s_fptr0 ?_ | refine s_seq0 ?_ | refine s_lenSB ?_ | refine s_pure ?_ | refine s_saddB ?_) | (refine g_hload ?_; first | refine s_hbx ?_ | refine s_d0 ?_ | refine s_d1 ?_ | refine s_d2 ?_ | refine s_d3 ?_ | refine s_d4 ?_ | refine s_d5 ?_ | refine s_d6 ?_ | refine s_hloadP ?_)) | (with_reducible refine i_vc ?_; first | refine v_seq ?_ | refine v_ops ?_ | (refine g_cond ?_; first | refine s_cond_t ?_ | refine s_cond_f ?_) | refine v_skip ?_ | refine v_ret ?_) | (with_reducible first | refine n_then ?_ | refine r_then ?_ | refine e_then ?_) | ((with_reducible first | refine s_g_c ?_ ?_ | refine s_cond_c ?_ ?_) <;> intro hb <;> rw [hb] <;> (try simp only [decide_eq_true_eq, decide_eq_false_iff_not, beq_iff_eq, bne_iff_ne, beq_eq_false_iff_ne, bne_eq_false_iff_eq, ne_eq, Int.not_lt, Int.not_le, gt_iff_lt, ge_iff_le, Bool.not_eq_true', Bool.not_eq_false'] at hb)) | ((with_reducible first | refine s_ret ?_ | refine s_normal ?_); try simp only [x_tup0, x_tup1, x_tup2, x_tup3, x_tup4, x_tup5, and_true, true_and])))
    · rw [hb, if_neg (by decide)] at er
      have := keep0 G4 l4 (repl_no (by rw [er]; decide))
      rwa [er] at this
    · rw [hb, if_pos rfl] at er
      have := keep0 G4 l4 (repl_no (by rw [er]; decide))
      rwa [er] at this
  · by_cases t0 : A.there s = 0
    · have er := replE_eq A s s'
      rw [t0, if_pos (.inl rfl)] at er
      rw [t0]
      (repeat' (first | (with_reducible refine i_ops ?_; first | (refine g_mv ?_; refine s_mv ?_) | refine o_nil ?_ | (refine g_some ?_; first | refine s_g_t ?_ | refine s_g_f ?_ | refine s_g_f' ?_ | refine s_g_u ?_) | (refine g_pick ?_; first | refine s_pick_t ?_ | refine s_pick_f ?_) | (refine g_pure ?_; first | refine s_nilPf ?_ | refine s_nilPt ?_ | refine s_nilNf ?_ | refine s_nilNt ?_ | refine s_nilck ?_ | refine s_fptr0 ?_ | refine s_seq0 ?_ | refine s_lenSB ?_ | refine s_pure ?_ | refine s_saddB ?_) | (refine g_hload ?_; first | refine s_hbx ?_ | refine s_d0 ?_ | refine s_d1 ?_ | refine s_d2 ?_ | refine s_d3 ?_ | refine s_d4 ?_ | refine s_d5 ?_ | refine s_d6 ?_ | refine s_hloadP ?_)) | (with_reducible refine i_vc ?_; first | refine v_seq ?_ | refine v_ops ?_ | (refine g_cond ?_; first | refine s_cond_t ?_ | refine s_cond_f ?_) | refine v_skip ?_ | refine v_ret ?_) | (with_reducible first | refine n_then ?_ | refine r_then ?_ | refine e_then ?_) | ((with_reducible first | refine s_g_c ?_ ?_ | refine s_cond_c ?_ ?_) <;> intro hb <;> rw [hb] <;> (try simp only [decide_eq_true_eq, decide_eq_false_iff_not, beq_iff_eq, bne_iff_ne, beq_eq_false_iff_ne, bne_eq_false_iff_eq, ne_eq, Int.not_lt, Int.not_le, gt_iff_lt, ge_iff_le, Bool.not_eq_true', Bool.not_eq_false'] at hb)) | ((with_reducible first | refine s_ret ?_ | refine s_normal ?_); try simp only [x_tup0, x_tup1, x_tup2, x_tup3, x_tup4, x_tup5, and_true, true_and])))
      refine o_callc qrf (namedF s' G3 hs') ?_
      rintro _ G4 ⟨rfl, l4⟩
      (repeat' (first | (with_reducible refine i_ops ?_; first | (refine g_mv ?_; refine s_mv ?_) | refine o_nil ?_ | (refine g_some ?_; first | refine s_g_t ?_ | refine s_g_f ?_ | refine s_g_f' ?_ | refine s_g_u ?_) | (refine g_pick ?_; first | refine s_pick_t ?_ | refine s_pick_f ?_) | (refine g_pure ?_; first | refine s_nilPf ?_ | refine s_nilPt ?_ | refine s_nilNf ?_ | refine s_nilNt ?_ | refine s_nilck ?_ | refine s_fptr0 ?_ | refine s_seq0 ?_ | refine s_lenSB ?_ | refine s_pure ?_ | refine s_saddB ?_) | (refine g_hload ?_; first | refine s_hbx ?_ | refine s_d0 ?_ | refine s_d1 ?_ | refine s_d2 ?_ | refine s_d3 ?_ | refine s_d4 ?_ | refine s_d5 ?_ | refine s_d6 ?_ | refine s_hloadP ?_)) | (with_reducible refine i_vc ?_; first | refine v_seq ?_ | refine v_ops ?_ | (refine g_cond ?_; first | refine s_cond_t ?_ | refine s_cond_f ?_) | refine v_skip ?_ | refine v_ret ?_) | (with_reducible first | refine n_then ?_ | refine r_then ?_ | refine e_then ?_) | ((with_reducible first | refine s_g_c ?_ ?_ | refine s_cond_c ?_ ?_) <;> intro hb <;> rw [hb] <;> (try simp only [decide_eq_true_eq, decide_eq_false_iff_not, beq_iff_eq, bne_iff_ne, beq_eq_false_iff_ne, bne_eq_false_iff_eq, ne_eq, Int.not_lt, Int.not_le, gt_iff_lt, ge_iff_le, Bool.not_eq_true', Bool.not_eq_false'] at hb)) | ((with_reducible first | refine s_ret ?_ | refine s_normal ?_); try simp only [x_tup0, x_tup1, x_tup2, x_tup3, x_tup4, x_tup5, and_true, true_and])))
      · rw [hb, if_neg (by decide)] at er
        have := keep0 G4 l4 (repl_no (by rw [er]; decide))
        rwa [er] at this
      · rw [hb, if_pos rfl] at er
        have e : A.replace s s' = (A.does (.repl s s'), (A.does (.repl s s')).err) := by unfold AD.replace; rw [if_pos er]
        rw [e]
        refine o_pure (v := .func (.func 53) #[] #[pt nb, pt nb']) qrf rfl ?_
        have c2 := doesP (p2.up l4) hN (u := .repl s s') ⟨nb, nb', 9, 9, rfl, hI1, hI2⟩ trivial (fine_repl h.ok.nf s s' hb)
        (repeat' (first | (with_reducible refine i_ops ?_; first | (refine g_mv ?_; refine s_mv ?_) | refine o_nil ?_ | (refine g_some ?_; first | refine s_g_t ?_ | refine s_g_f ?_ | refine s_g_f' ?_ | refine s_g_u ?_) | (refine g_pick ?_; first | refine s_pick_t ?_ | refine s_pick_f ?_) | (refine g_pure ?_; first | refine s_nilPf ?_ | refine s_nilPt ?_ | refine s_nilNf ?_ | refine s_nilNt ?_ | refine s_nilck ?_ | refine s_fptr0 ?_ | refine s_seq0 ?_ | refine s_lenSB ?_ | refine s_pure ?_ | refine s_saddB ?_) | (refine g_hload ?_; first | refine s_hbx ?_ | refine s_d0 ?_ | refine s_d1 ?_ | refine s_d2 ?_ | refine s_d3 ?_ | refine s_d4 ?_ | refine s_d5 ?_ | refine s_d6 ?_ | refine s_hloadP ?_)) | (with_reducible refine i_vc ?_; first | refine v_seq ?_ | refine v_ops ?_ | (refine g_cond ?_; first | refine s_cond_t ?_ | refine s_cond_f ?_) | refine v_skip ?_ | refine v_ret ?_) | (with_reducible first | refine n_then ?_ | refine r_then ?_ | refine e_then ?_) | ((with_reducible first | refine s_g_c ?_ ?_ | refine s_cond_c ?_ ?_) <;> intro hb <;> rw [hb] <;> (try simp only [decide_eq_true_eq, decide_eq_false_iff_not, beq_iff_eq, bne_iff_ne, beq_eq_false_iff_ne, bne_eq_false_iff_eq, ne_eq, Int.not_lt, Int.not_le, gt_iff_lt, ge_iff_le, Bool.not_eq_true', Bool.not_eq_false'] at hb)) | ((with_reducible first | refine s_ret ?_ | refine s_normal ?_); try simp only [x_tup0, x_tup1, x_tup2, x_tup3, x_tup4, x_tup5, and_true, true_and])))
        refine o_callc qrf c2 ?_
        rintro _ G5 ⟨rfl, I3, us3, l5, p3⟩
        (repeat' (first | (with_reducible refine i_ops ?_; first | (refine g_mv ?_; refine s_mv ?_) | refine o_nil ?_ | (refine g_some ?_; first | refine s_g_t ?_ | refine s_g_f ?_ | refine s_g_f' ?_ | refine s_g_u ?_) | (refine g_pick ?_; first | refine s_pick_t ?_ | refine s_pick_f ?_) | (refine g_pure ?_; first | refine s_nilPf ?_ | refine s_nilPt ?_ | refine s_nilNf ?_ | refine s_nilNt ?_ | refine s_nilck ?_ | refine s_fptr0 ?_ | refine s_seq0 ?_ | refine s_lenSB ?_ | refine s_pure ?_ | refine s_saddB ?_) | (refine g_hload ?_; first | refine s_hbx ?_ | refine s_d0 ?_ | refine s_d1 ?_ | refine s_d2 ?_ | refine s_d3 ?_ | refine s_d4 ?_ | refine s_d5 ?_ | refine s_d6 ?_ | refine s_hloadP ?_)) | (with_reducible refine i_vc ?_; first | refine v_seq ?_ | refine v_ops ?_ | (refine g_cond ?_; first | refine s_cond_t ?_ | refine s_cond_f ?_) | refine v_skip ?_ | refine v_ret ?_) | (with_reducible first | refine n_then ?_ | refine r_then ?_ | refine e_then ?_) | ((with_reducible first | refine s_g_c ?_ ?_ | refine s_cond_c ?_ ?_) <;> intro hb <;> rw [hb] <;> (try simp only [decide_eq_true_eq, decide_eq_false_iff_not, beq_iff_eq, bne_iff_ne, beq_eq_false_iff_ne, bne_eq_false_iff_eq, ne_eq, Int.not_lt, Int.not_le, gt_iff_lt, ge_iff_le, Bool.not_eq_true', Bool.not_eq_false'] at hb)) | ((with_reducible first | refine s_ret ?_ | refine s_normal ?_); try simp only [x_tup0, x_tup1, x_tup2, x_tup3, x_tup4, x_tup5, and_true, true_and])))
        exact ⟨rfl, I3, us3, GH.le_trans (addF_le _ _ _) l5, p3⟩
    · have er := replE_eq A s s'
      rw [if_neg (fun h => h.elim t0 t7)] at er
      have e7 : decide (A.there s = 70) = false := decide_eq_false t7
      (repeat' (first | (with_reducible refine i_ops ?_; first | (refine g_mv ?_; refine s_mv ?_) | refine o_nil ?_ | (refine g_some ?_; first | refine s_g_t ?_ | refine s_g_f ?_ | refine s_g_f' ?_ | refine s_g_u ?_) | (refine g_pick ?_; first | refine s_pick_t ?_ | refine s_pick_f ?_) | (refine g_pure ?_; first | refine s_nilPf ?_ | refine s_nilPt ?_ | refine s_nilNf ?_ | refine s_nilNt ?_ | refine s_nilck ?_ | refine s_fptr0 ?_ | refine s_seq0 ?_ | refine s_lenSB ?_ | refine s_pure ?_ | refine s_saddB ?_) | (refine g_hload ?_; first | refine s_hbx ?_ | refine s_d0 ?_ | refine s_d1 ?_ | refine s_d2 ?_ | refine s_d3 ?_ | refine s_d4 ?_ | refine s_d5 ?_ | refine s_d6 ?_ | refine s_hloadP ?_)) | (with_reducible refine i_vc ?_; first | refine v_seq ?_ | refine v_ops ?_ | (refine g_cond ?_; first | refine s_cond_t ?_ | refine s_cond_f ?_) | refine v_skip ?_ | refine v_ret ?_) | (with_reducible first | refine n_then ?_ | refine r_then ?_ | refine e_then ?_) | ((with_reducible first | refine s_g_c ?_ ?_ | refine s_cond_c ?_ ?_) <;> intro hb <;> rw [hb] <;> (try simp only [decide_eq_true_eq, decide_eq_false_iff_not, beq_iff_eq, bne_iff_ne, beq_eq_false_iff_ne, bne_eq_false_iff_eq, ne_eq, Int.not_lt, Int.not_le, gt_iff_lt, ge_iff_le, Bool.not_eq_true', Bool.not_eq_false'] at hb)) | ((with_reducible first | refine s_ret ?_ | refine s_normal ?_); try simp only [x_tup0, x_tup1, x_tup2, x_tup3, x_tup4, x_tup5, and_true, true_and])))
      · exact absurd hb t7
      · have := keep0 G3 (GH.le_refl _) (repl_no (by rw [er]; exact t0))
        rwa [er] at this
      · exact absurd hb t0
end
end Go.Proofs.Ytbmhdmkmnhaffaa.V
end
section
/- Cut. -/
set_option linter.unusedVariables false
set_option linter.unusedSimpArgs false
-- @pre g_hload s_hbx s_d0 s_d1 s_d2 s_d3 s_d4 s_d5 s_d6
-- @extra s_nilPf s_nilPt s_nilNf s_nilNt s_nilck s_fptr0 s_seq0 s_lenSB
namespace Go.Proofs.Ytbmhdmkmnhaffaa.V
open Go.RowKit Go.ChangeShapes Go.WideShapes
section
variable {N : Nat} {I G : GH} {b mb : Nat} {us : Value} {A : AD}
theorem cutP (h : PD N I G b mb us A) (hN : N ≤ 1000000) (s : Nm) (n : Int) (hs : s.length ≤ 4611686018427387904) (hn1 : -9223372036854775808 ≤ n) (hn2 : n ≤ 9223372036854775807) : HC Try.prog 27 #[pt b, sv s, .int .i64 n] G fun v G' => Left (N + 1) I b mb (A.cut s n) v G' := by
  refine HC.start comp27 rfl ?_; unfold pc27
  (repeat' (first | (with_reducible refine i_ops ?_; first | (refine g_mv ?_; refine s_mv ?_) | refine o_nil ?_ | (refine g_some ?_; first | refine s_g_t ?_ | refine s_g_f ?_ | refine s_g_f' ?_ | refine s_g_u ?_) | (refine g_pick ?_; first | refine s_pick_t ?_ | refine s_pick_f ?_) | (refine g_len ?_; first | refine s_lenB ?_ | refine s_pure ?_) | (refine g_pure ?_; first | refine s_nilPf ?_ | refine s_nilPt ?_ | refine s_nilNf ?_ | refine s_nilNt ?_ | refine s_nilck ?_ | refine s_fptr0 ?_ | refine s_seq0 ?_ | refine s_lenSB ?_ | refine s_pure ?_ | refine s_saddB ?_) | (refine g_hload ?_; first | refine s_hbx ?_ | refine s_d0 ?_ | refine s_d1 ?_ | refine s_d2 ?_ | refine s_d3 ?_ | refine s_d4 ?_ | refine s_d5 ?_ | refine s_d6 ?_ | refine s_hloadP ?_)) | (with_reducible refine i_vc ?_; first | refine v_seq ?_ | refine v_ops ?_ | (refine g_cond ?_; first | refine s_cond_t ?_ | refine s_cond_f ?_) | refine v_skip ?_ | refine v_ret ?_ | refine s_drawl ?_ | refine v_draw0 ?_) | (with_reducible refine i_plan ?_; first | refine p_done ?_ | refine s_pre ?_ | refine s_preN ?_ | refine s_ag_t ?_ | refine s_ag_f ?_ | refine s_alt ?_ | refine p_alt ?_ ?_) | (with_reducible first | refine n_then ?_ | refine r_then ?_ | refine e_then ?_ | (refine g_stand ?_; first | refine s_stand ?_ | refine s_standL ?_)) | ((with_reducible first | refine s_g_c ?_ ?_ | refine s_cond_c ?_ ?_ | refine s_tg_c ?_ ?_ | refine s_ag_c ?_ ?_) <;> intro hb <;> rw [hb] <;> (try simp only [decide_eq_true_eq, decide_eq_false_iff_not, beq_iff_eq, bne_iff_ne, beq_eq_false_iff_ne, bne_eq_false_iff_eq, ne_eq, Int.not_lt, Int.not_le, gt_iff_lt, ge_iff_le, Bool.not_eq_true', Bool.not_eq_false'] at hb)) | ((with_reducible first | refine s_ret ?_ | refine s_normal ?_); try simp only [x_tup0, x_tup1, x_tup2, x_tup3, x_tup4, x_tup5, and_true, true_and])))
  refine o_hboxV qrf rfl ?_
  intro nb G1 hnb l1 hb1 _
  (repeat' (first | (with_reducible refine i_ops ?_; first | (refine g_mv ?_; refine s_mv ?_) | refine o_nil ?_ | (refine g_some ?_; first | refine s_g_t ?_ | refine s_g_f ?_ | refine s_g_f' ?_ | refine s_g_u ?_) | (refine g_pick ?_; first | refine s_pick_t ?_ | refine s_pick_f ?_) | (refine g_len ?_; first | refine s_lenB ?_ | refine s_pure ?_) | (refine g_pure ?_; first | refine s_nilPf ?_ | refine s_nilPt ?_ | refine s_nilNf ?_ | refine s_nilNt ?_ | refine s_nilck ?_ | refine s_fptr0 ?_ | refine s_seq0 ?_ | refine s_lenSB ?_ | refine s_pure ?_ | refine s_saddB ?_) | (refine g_hload ?_; first | refine s_hbx ?_ | refine s_d0 ?_ | refine s_d1 ?_ | refine s_d2 ?_ | refine s_d3 ?_ | refine s_d4 ?_ | refine s_d5 ?_ | refine s_d6 ?_ | refine s_hloadP ?_)) | (with_reducible refine i_vc ?_; first | refine v_seq ?_ | refine v_ops ?_ | (refine g_cond ?_; first | refine s_cond_t ?_ | refine s_cond_f ?_) | refine v_skip ?_ | refine v_ret ?_ | refine s_drawl ?_ | refine v_draw0 ?_) | (with_reducible refine i_plan ?_; first | refine p_done ?_ | refine s_pre ?_ | refine s_preN ?_ | refine s_ag_t ?_ | refine s_ag_f ?_ | refine s_alt ?_ | refine p_alt ?_ ?_) | (with_reducible first | refine n_then ?_ | refine r_then ?_ | refine e_then ?_ | (refine g_stand ?_; first | refine s_stand ?_ | refine s_standL ?_)) | ((with_reducible first | refine s_g_c ?_ ?_ | refine s_cond_c ?_ ?_ | refine s_tg_c ?_ ?_ | refine s_ag_c ?_ ?_) <;> intro hb <;> rw [hb] <;> (try simp only [decide_eq_true_eq, decide_eq_false_iff_not, beq_iff_eq, bne_iff_ne, beq_eq_false_iff_ne, bne_eq_false_iff_eq, ne_eq, Int.not_lt, Int.not_le, gt_iff_lt, ge_iff_le, Bool.not_eq_true', Bool.not_eq_false'] at hb)) | ((with_reducible first | refine s_ret ?_ | refine s_normal ?_); try simp only [x_tup0, x_tup1, x_tup2, x_tup3, x_tup4, x_tup5, and_true, true_and])))
  refine o_hboxV qrf rfl ?_
  intro kb G2 hkb l2 hb2 _
  have l12 := GH.le_trans l1 l2
  have hb1' := l2 _ _ hb1
  have p1 := h.grow l12
  have hI1 : (addF I G G2) nb = some (bx (sv s) 9) := by rw [addF_new (le_none h.le hnb) hnb]; exact hb1'
  have hI2 : (addF I G G2) kb = some (bx (.int .i64 n) 3) := by rw [addF_new (le_none (GH.le_trans h.le l1) hkb) (le_none l1 hkb)]; exact hb2
  have c1 := thereP p1 s hs
  (repeat' (first | (with_reducible refine i_ops ?_; first | (refine g_mv ?_; refine s_mv ?_) | refine o_nil ?_ | (refine g_some ?_; first | refine s_g_t ?_ | refine s_g_f ?_ | refine s_g_f' ?_ | refine s_g_u ?_) | (refine g_pick ?_; first | refine s_pick_t ?_ | refine s_pick_f ?_) | (refine g_len ?_; first | refine s_lenB ?_ | refine s_pure ?_) | (refine g_pure ?_; first | refine s_nilPf ?_ | refine s_nilPt ?_ | refine s_nilNf ?_ | refine s_nilNt ?_ | refine s_nilck ?_ | refine s_fptr0 ?_ | refine s_seq0 ?_ | refine s_lenSB ?_ | refine s_pure ?_ | refine s_saddB ?_) | (refine g_hload ?_; first | refine s_hbx ?_ | refine s_d0 ?_ | refine s_d1 ?_ | refine s_d2 ?_ | refine s_d3 ?_ | refine s_d4 ?_ | refine s_d5 ?_ | refine s_d6 ?_ | refine s_hloadP ?_)) | (with_reducible refine i_vc ?_; first | refine v_seq ?_ | refine v_ops ?_ | (refine g_cond ?_; first | refine s_cond_t ?_ | refine s_cond_f ?_) | refine v_skip ?_ | refine v_ret ?_ | refine s_drawl ?_ | refine v_draw0 ?_) | (with_reducible refine i_plan ?_; first | refine p_done ?_ | refine s_pre ?_ | refine s_preN ?_ | refine s_ag_t ?_ | refine s_ag_f ?_ | refine s_alt ?_ | refine p_alt ?_ ?_) | (with_reducible first | refine n_then ?_ | refine r_then ?_ | refine e_then ?_ | (refine g_stand ?_; first | refine s_stand ?_ | refine s_standL ?_)) | ((with_reducible first | refine s_g_c ?_ ?_ | refine s_cond_c ?_ ?_ | refine s_tg_c ?_ ?_ | refine s_ag_c ?_ ?_) <;> intro hb <;> rw [hb] <;> (try simp only [decide_eq_true_eq, decide_eq_false_iff_not, beq_iff_eq, bne_iff_ne, beq_eq_false_iff_ne, bne_eq_false_iff_eq, ne_eq, Int.not_lt, Int.not_le, gt_iff_lt, ge_iff_le, Bool.not_eq_true', Bool.not_eq_false'] at hb)) | ((with_reducible first | refine s_ret ?_ | refine s_normal ?_); try simp only [x_tup0, x_tup1, x_tup2, x_tup3, x_tup4, x_tup5, and_true, true_and])))
  refine o_callc qrf c1 ?_
  rintro _ G3 ⟨rfl, l3⟩
  have p2 := p1.up l3
  have hb1 := l3 _ _ hb1'
  have hb2 := l3 _ _ hb2
  have keep0 : ∀ H : GH, G3.le H → A.cutE s n ≠ 0 → Left (N + 1) I b mb (A.cut s n) (.int .i64 (A.cutE s n)) H := fun H hl e => by
    have : A.cut s n = (A, A.cutE s n) := by unfold AD.cut; rw [if_neg e]
    rw [this]
    exact ⟨rfl, _, us, addF_le _ _ _, (p2.up hl).mono (Nat.le_succ _)⟩
  obtain ⟨lb, t, q1, q2⟩ := p2.cell
  obtain ⟨mo, m, n1, n2, n3⟩ := p2.now
  obtain ⟨v, hv, hby⟩ := n3.look s
  obtain ⟨a, len, cap, rfl⟩ := hby.shape
  have hlen := By.len hby
  by_cases t0 : A.there s = 0
  · have ec : A.cutE s n = if n < 0 ∨ ((fg s A.now).length : Int) < n then 2 else 0 := by unfold AD.cutE; rw [if_pos t0]
    rw [t0]
    have hlen' : len = (fg s A.now).length := hlen
    (repeat' (first | (with_reducible refine i_ops ?_; first | (refine g_mv ?_; refine s_mv ?_) | refine o_nil ?_ | (refine g_some ?_; first | refine s_g_t ?_ | refine s_g_f ?_ | refine s_g_f' ?_ | refine s_g_u ?_) | (refine g_pick ?_; first | refine s_pick_t ?_ | refine s_pick_f ?_) | (refine g_len ?_; first | refine s_lenB ?_ | refine s_pure ?_) | (refine g_pure ?_; first | refine s_nilPf ?_ | refine s_nilPt ?_ | refine s_nilNf ?_ | refine s_nilNt ?_ | refine s_nilck ?_ | refine s_fptr0 ?_ | refine s_seq0 ?_ | refine s_lenSB ?_ | refine s_pure ?_ | refine s_saddB ?_) | (refine g_hload ?_; first | refine s_hbx ?_ | refine s_d0 ?_ | refine s_d1 ?_ | refine s_d2 ?_ | refine s_d3 ?_ | refine s_d4 ?_ | refine s_d5 ?_ | refine s_d6 ?_ | refine s_hloadP ?_)) | (with_reducible refine i_vc ?_; first | refine v_seq ?_ | refine v_ops ?_ | (refine g_cond ?_; first | refine s_cond_t ?_ | refine s_cond_f ?_) | refine v_skip ?_ | refine v_ret ?_ | refine s_drawl ?_ | refine v_draw0 ?_) | (with_reducible refine i_plan ?_; first | refine p_done ?_ | refine s_pre ?_ | refine s_preN ?_ | refine s_ag_t ?_ | refine s_ag_f ?_ | refine s_alt ?_ | refine p_alt ?_ ?_) | (with_reducible first | refine n_then ?_ | refine r_then ?_ | refine e_then ?_ | (refine g_stand ?_; first | refine s_stand ?_ | refine s_standL ?_)) | ((with_reducible first | refine s_g_c ?_ ?_ | refine s_cond_c ?_ ?_ | refine s_tg_c ?_ ?_ | refine s_ag_c ?_ ?_) <;> intro hb <;> rw [hb] <;> (try simp only [decide_eq_true_eq, decide_eq_false_iff_not, beq_iff_eq, bne_iff_ne, beq_eq_false_iff_ne, bne_eq_false_iff_eq, ne_eq, Int.not_lt, Int.not_le, gt_iff_lt, ge_iff_le, Bool.not_eq_true', Bool.not_eq_false'] at hb)) | ((with_reducible first | refine s_ret ?_ | refine s_normal ?_); try simp only [x_tup0, x_tup1, x_tup2, x_tup3, x_tup4, x_tup5, and_true, true_and])))
    · rw [if_pos (.inl hb)] at ec
      have := keep0 G3 (GH.le_refl _) (by rw [ec]; decide)
      rwa [ec] at this
    · refine o_mlook (s := s) qrf qrf n1 n2 ?_
      rw [hv]
      refine s_stand ?_
      have hn0 : 0 ≤ n := hb
      (repeat' (first | (with_reducible refine i_ops ?_; first | (refine g_mv ?_; refine s_mv ?_) | refine o_nil ?_ | (refine g_some ?_; first | refine s_g_t ?_ | refine s_g_f ?_ | refine s_g_f' ?_ | refine s_g_u ?_) | (refine g_pick ?_; first | refine s_pick_t ?_ | refine s_pick_f ?_) | (refine g_len ?_; first | refine s_lenB ?_ | refine s_pure ?_) | (refine g_pure ?_; first | refine s_nilPf ?_ | refine s_nilPt ?_ | refine s_nilNf ?_ | refine s_nilNt ?_ | refine s_nilck ?_ | refine s_fptr0 ?_ | refine s_seq0 ?_ | refine s_lenSB ?_ | refine s_pure ?_ | refine s_saddB ?_) | (refine g_hload ?_; first | refine s_hbx ?_ | refine s_d0 ?_ | refine s_d1 ?_ | refine s_d2 ?_ | refine s_d3 ?_ | refine s_d4 ?_ | refine s_d5 ?_ | refine s_d6 ?_ | refine s_hloadP ?_)) | (with_reducible refine i_vc ?_; first | refine v_seq ?_ | refine v_ops ?_ | (refine g_cond ?_; first | refine s_cond_t ?_ | refine s_cond_f ?_) | refine v_skip ?_ | refine v_ret ?_ | refine s_drawl ?_ | refine v_draw0 ?_) | (with_reducible refine i_plan ?_; first | refine p_done ?_ | refine s_pre ?_ | refine s_preN ?_ | refine s_ag_t ?_ | refine s_ag_f ?_ | refine s_alt ?_ | refine p_alt ?_ ?_) | (with_reducible first | refine n_then ?_ | refine r_then ?_ | refine e_then ?_ | (refine g_stand ?_; first | refine s_stand ?_ | refine s_standL ?_)) | ((with_reducible first | refine s_g_c ?_ ?_ | refine s_cond_c ?_ ?_ | refine s_tg_c ?_ ?_ | refine s_ag_c ?_ ?_) <;> intro hb <;> rw [hb] <;> (try simp only [decide_eq_true_eq, decide_eq_false_iff_not, beq_iff_eq, bne_iff_ne, beq_eq_false_iff_ne, bne_eq_false_iff_eq, ne_eq, Int.not_lt, Int.not_le, gt_iff_lt, ge_iff_le, Bool.not_eq_true', Bool.not_eq_false'] at hb)) | ((with_reducible first | refine s_ret ?_ | refine s_normal ?_); try simp only [x_tup0, x_tup1, x_tup2, x_tup3, x_tup4, x_tup5, and_true, true_and])))
      · rw [if_pos (.inr (by omega))] at ec
        have := keep0 G3 (GH.le_refl _) (by rw [ec]; decide)
        rwa [ec] at this
      · rw [if_neg (by omega)] at ec
        have e : A.cut s n = (A.does (.cut s n.toNat), (A.does (.cut s n.toNat)).err) := by unfold AD.cut; rw [if_pos ec]
        rw [e]
        refine o_pure (v := .func (.func 55) #[] #[pt nb, pt kb]) qrf rfl ?_
        have hnn : n = ((n.toNat : Nat) : Int) := (Int.toNat_of_nonneg hn0).symm
        have c2 := doesP p2 hN (u := .cut s n.toNat) ⟨nb, kb, 9, 3, rfl, hI1, by rw [← hnn]; exact hI2⟩ (by show n.toNat ≤ _; omega) (fine_cut h.ok.nf s n.toNat (AD.there0 t0).2.1)
        (repeat' (first | (with_reducible refine i_ops ?_; first | (refine g_mv ?_; refine s_mv ?_) | refine o_nil ?_ | (refine g_some ?_; first | refine s_g_t ?_ | refine s_g_f ?_ | refine s_g_f' ?_ | refine s_g_u ?_) | (refine g_pick ?_; first | refine s_pick_t ?_ | refine s_pick_f ?_) | (refine g_len ?_; first | refine s_lenB ?_ | refine s_pure ?_) | (refine g_pure ?_; first | refine s_nilPf ?_ | refine s_nilPt ?_ | refine s_nilNf ?_ | refine s_nilNt ?_ | refine s_nilck ?_ | refine s_fptr0 ?_ | refine s_seq0 ?_ | refine s_lenSB ?_ | refine s_pure ?_ | refine s_saddB ?_) | (refine g_hload ?_; first | refine s_hbx ?_ | refine s_d0 ?_ | refine s_d1 ?_ | refine s_d2 ?_ | refine s_d3 ?_ | refine s_d4 ?_ | refine s_d5 ?_ | refine s_d6 ?_ | refine s_hloadP ?_)) | (with_reducible refine i_vc ?_; first | refine v_seq ?_ | refine v_ops ?_ | (refine g_cond ?_; first | refine s_cond_t ?_ | refine s_cond_f ?_) | refine v_skip ?_ | refine v_ret ?_ | refine s_drawl ?_ | refine v_draw0 ?_) | (with_reducible refine i_plan ?_; first | refine p_done ?_ | refine s_pre ?_ | refine s_preN ?_ | refine s_ag_t ?_ | refine s_ag_f ?_ | refine s_alt ?_ | refine p_alt ?_ ?_) | (with_reducible first | refine n_then ?_ | refine r_then ?_ | refine e_then ?_ | (refine g_stand ?_; first | refine s_stand ?_ | refine s_standL ?_)) | ((with_reducible first | refine s_g_c ?_ ?_ | refine s_cond_c ?_ ?_ | refine s_tg_c ?_ ?_ | refine s_ag_c ?_ ?_) <;> intro hb <;> rw [hb] <;> (try simp only [decide_eq_true_eq, decide_eq_false_iff_not, beq_iff_eq, bne_iff_ne, beq_eq_false_iff_ne, bne_eq_false_iff_eq, ne_eq, Int.not_lt, Int.not_le, gt_iff_lt, ge_iff_le, Bool.not_eq_true', Bool.not_eq_false'] at hb)) | ((with_reducible first | refine s_ret ?_ | refine s_normal ?_); try simp only [x_tup0, x_tup1, x_tup2, x_tup3, x_tup4, x_tup5, and_true, true_and])))
        refine o_callc qrf c2 ?_
        rintro _ G5 ⟨rfl, I3, us3, l5, p3⟩
        (repeat' (first | (with_reducible refine i_ops ?_; first | (refine g_mv ?_; refine s_mv ?_) | refine o_nil ?_ | (refine g_some ?_; first | refine s_g_t ?_ | refine s_g_f ?_ | refine s_g_f' ?_ | refine s_g_u ?_) | (refine g_pick ?_; first | refine s_pick_t ?_ | refine s_pick_f ?_) | (refine g_len ?_; first | refine s_lenB ?_ | refine s_pure ?_) | (refine g_pure ?_; first | refine s_nilPf ?_ | refine s_nilPt ?_ | refine s_nilNf ?_ | refine s_nilNt ?_ | refine s_nilck ?_ | refine s_fptr0 ?_ | refine s_seq0 ?_ | refine s_lenSB ?_ | refine s_pure ?_ | refine s_saddB ?_) | (refine g_hload ?_; first | refine s_hbx ?_ | refine s_d0 ?_ | refine s_d1 ?_ | refine s_d2 ?_ | refine s_d3 ?_ | refine s_d4 ?_ | refine s_d5 ?_ | refine s_d6 ?_ | refine s_hloadP ?_)) | (with_reducible refine i_vc ?_; first | refine v_seq ?_ | refine v_ops ?_ | (refine g_cond ?_; first | refine s_cond_t ?_ | refine s_cond_f ?_) | refine v_skip ?_ | refine v_ret ?_ | refine s_drawl ?_ | refine v_draw0 ?_) | (with_reducible refine i_plan ?_; first | refine p_done ?_ | refine s_pre ?_ | refine s_preN ?_ | refine s_ag_t ?_ | refine s_ag_f ?_ | refine s_alt ?_ | refine p_alt ?_ ?_) | (with_reducible first | refine n_then ?_ | refine r_then ?_ | refine e_then ?_ | (refine g_stand ?_; first | refine s_stand ?_ | refine s_standL ?_)) | ((with_reducible first | refine s_g_c ?_ ?_ | refine s_cond_c ?_ ?_ | refine s_tg_c ?_ ?_ | refine s_ag_c ?_ ?_) <;> intro hb <;> rw [hb] <;> (try simp only [decide_eq_true_eq, decide_eq_false_iff_not, beq_iff_eq, bne_iff_ne, beq_eq_false_iff_ne, bne_eq_false_iff_eq, ne_eq, Int.not_lt, Int.not_le, gt_iff_lt, ge_iff_le, Bool.not_eq_true', Bool.not_eq_false'] at hb)) | ((with_reducible first | refine s_ret ?_ | refine s_normal ?_); try simp only [x_tup0, x_tup1, x_tup2, x_tup3, x_tup4, x_tup5, and_true, true_and])))
        exact ⟨rfl, I3, us3, GH.le_trans (addF_le _ _ _) l5, p3⟩
  · have ec : A.cutE s n = A.there s := by unfold AD.cutE; rw [if_neg t0]
    rw [ec] at keep0
    (repeat' (first | (with_reducible refine i_ops ?_; first | (refine g_mv ?_; refine s_mv ?_) | refine o_nil ?_ | (refine g_some ?_; first | refine s_g_t ?_ | refine s_g_f ?_ | refine s_g_f' ?_ | refine s_g_u ?_) | (refine g_pick ?_; first | refine s_pick_t ?_ | refine s_pick_f ?_) | (refine g_len ?_; first | refine s_lenB ?_ | refine s_pure ?_) | (refine g_pure ?_; first | refine s_nilPf ?_ | refine s_nilPt ?_ | refine s_nilNf ?_ | refine s_nilNt ?_ | refine s_nilck ?_ | refine s_fptr0 ?_ | refine s_seq0 ?_ | refine s_lenSB ?_ | refine s_pure ?_ | refine s_saddB ?_) | (refine g_hload ?_; first | refine s_hbx ?_ | refine s_d0 ?_ | refine s_d1 ?_ | refine s_d2 ?_ | refine s_d3 ?_ | refine s_d4 ?_ | refine s_d5 ?_ | refine s_d6 ?_ | refine s_hloadP ?_)) | (with_reducible refine i_vc ?_; first | refine v_seq ?_ | refine v_ops ?_ | (refine g_cond ?_; first | refine s_cond_t ?_ | refine s_cond_f ?_) | refine v_skip ?_ | refine v_ret ?_ | refine s_drawl ?_ | refine v_draw0 ?_) | (with_reducible refine i_plan ?_; first | refine p_done ?_ | refine s_pre ?_ | refine s_preN ?_ | refine s_ag_t ?_ | refine s_ag_f ?_ | refine s_alt ?_ | refine p_alt ?_ ?_) | (with_reducible first | refine n_then ?_ | refine r_then ?_ | refine e_then ?_ | (refine g_stand ?_; first | refine s_stand ?_ | refine s_standL ?_)) | ((with_reducible first | refine s_g_c ?_ ?_ | refine s_cond_c ?_ ?_ | refine s_tg_c ?_ ?_ | refine s_ag_c ?_ ?_) <;> intro hb <;> rw [hb] <;> (try simp only [decide_eq_true_eq, decide_eq_false_iff_not, beq_iff_eq, bne_iff_ne, beq_eq_false_iff_ne, bne_eq_false_iff_eq, ne_eq, Int.not_lt, Int.not_le, gt_iff_lt, ge_iff_le, Bool.not_eq_true', Bool.not_eq_false'] at hb)) | ((with_reducible first | refine s_ret ?_ | refine s_normal ?_); try simp only [x_tup0, x_tup1, x_tup2, x_tup3, x_tup4, x_tup5, and_true, true_and])))
    · exact keep0 G3 (GH.le_refl _) t0
    all_goals exact absurd (by assumption) t0
end
end Go.Proofs.Ytbmhdmkmnhaffaa.V
end
section
/- Names, Used. -/
set_option linter.unusedVariables false
set_option linter.unusedSimpArgs false
-- @pre g_hload s_hbx s_d0 s_d1 s_d2 s_d3 s_d4 s_d5 s_d6
-- @extra s_nilPf s_nilPt s_nilNf s_nilNt s_nilck s_fptr0 s_seq0 s_lenSB
namespace Go.Proofs.Ytbmhdmkmnhaffaa.V
open Go.RowKit Go.ChangeShapes Go.WideShapes
/-- What an iterator over files tells. -/
def FilI (fs : Fis) (k : Nat) (x : List Value) (_ _ : GH) : Prop := ∃ h : k < fs.length, x = [sv fs[k].1, .int .i64 fs[k].2.length]
theorem namesItF {I G : GH} {bk b t N : Nat} {o : Obj} {m : AM} {fs : Fis} (hk : G bk = some (bx (.map (some b)) t)) (hb : G b = some o) (hm : MapO o m) (hr : MR I m fs) (hf : Fine N fs) (hN : N ≤ 1000000) :
    IterC Try.prog 44 [pt bk] G fs.length (FilI fs) := by
  have hn := hr.names hm.nodup hf.so
  have hl := hr.len hm.nodup hf.so
  have hfl := hf.len
  have hit := namesIt bk b t o m G hk hb hm (hr.slices hm.nodup) (fun s hs => by
    have : s ∈ fs.map (·.1) := by rw [← hn]; exact namesM_mem.2 hs
    obtain ⟨p, hp, rfl⟩ := List.mem_map.1 this
    have := nameOk_len (hf.nm p hp)
    omega) (by omega)
  rw [hl] at hit
  have hitem : ∀ k x G0 G1, FileI m k x G0 G1 ↔ FilI fs k x G0 G1 := by
    intro k x G0 G1
    constructor
    · rintro ⟨s, a, n, c, h1, h2, rfl⟩
      rw [hn, List.getElem?_map] at h1
      cases hq : fs[k]? with
      | none => rw [hq] at h1; cases h1
      | some p =>
        rw [hq] at h1
        cases h1
        obtain ⟨hk', e⟩ := List.getElem?_eq_some_iff.1 hq
        refine ⟨hk', ?_⟩
        rw [e]
        have hg : fget p.1 fs = some p.2 := fget_of hf.so (e ▸ List.getElem_mem hk')
        rcases hr p.1 with ⟨v, bs, g1, g2, g3⟩ | ⟨g1, _⟩
        · rw [h2] at g1; cases g1
          rw [hg] at g2; cases g2
          have := By.len g3
          simp only [lenS] at this
          rw [this]
        · rw [h2] at g1; cases g1
    · rintro ⟨hk', rfl⟩
      have hg : fget fs[k].1 fs = some fs[k].2 := fget_of hf.so (List.getElem_mem hk')
      rcases hr fs[k].1 with ⟨v, bs, g1, g2, g3⟩ | ⟨_, g2⟩
      · rw [hg] at g2; cases g2
        obtain ⟨a, n, c, rfl⟩ := g3.shape
        refine ⟨fs[k].1, a, n, c, by rw [hn, List.getElem?_map, List.getElem?_eq_getElem hk']; rfl, g1, ?_⟩
        have := By.len g3
        simp only [lenS] at this
        rw [this]
      · rw [hg] at g2; cases g2
  have : FileI m = FilI fs := by funext k x G0 G1; exact propext (hitem k x G0 G1)
  rwa [this] at hit
/-- An iterator over files, in memory. -/
def NamV (N : Nat) (I G : GH) (fs : Fis) (v : Value) : Prop := ∃ bk bm t o m, v = .func (.func 44) #[] #[pt bk] ∧ G bk = some (bx (.map (some bm)) t) ∧ G bm = some o ∧ MapO o m ∧ MR I m fs ∧ Fine N fs ∧ I.le G
section
variable {N : Nat} {I G : GH} {b mb : Nat} {us : Value} {A : AD}
theorem namesP (h : PD N I G b mb us A) : HC Try.prog 21 #[pt b] G fun v G' => G.le G' ∧ NamV N I G' A.now v ∧ NamV N I (addF I G G') A.now v := by
  obtain ⟨lb, t, q1, q2⟩ := h.cell
  obtain ⟨mo, m, n1, n2, n3⟩ := h.now
  refine HC.start comp21 rfl ?_; unfold pc21
  (repeat' (first | (with_reducible refine i_ops ?_; first | (refine g_mv ?_; refine s_mv ?_) | refine o_nil ?_ | (refine g_pure ?_; first | refine s_nilPf ?_ | refine s_nilPt ?_ | refine s_nilNf ?_ | refine s_nilNt ?_ | refine s_nilck ?_ | refine s_fptr0 ?_ | refine s_seq0 ?_ | refine s_lenSB ?_ | refine s_pure ?_ | refine s_saddB ?_) | (refine g_hload ?_; first | refine s_hbx ?_ | refine s_d0 ?_ | refine s_d1 ?_ | refine s_d2 ?_ | refine s_d3 ?_ | refine s_d4 ?_ | refine s_d5 ?_ | refine s_d6 ?_ | refine s_hloadP ?_) | (refine g_hstore ?_; (refine s_hstoreB ?_; intro G' hle ho hkp))) | (with_reducible refine i_vc ?_; first | refine v_seq ?_ | refine v_ops ?_ | (refine g_cond ?_; first | refine s_cond_t ?_ | refine s_cond_f ?_) | refine v_block ?_ | refine v_skip ?_ | refine v_exit ?_ | refine v_ret ?_) | (with_reducible first | refine n_then ?_ | refine r_then ?_ | refine e_then ?_ | refine n_block ?_ | refine r_block ?_ | refine e_block_eq qrf ?_ | refine e_block_ne qrf ?_) | ((with_reducible first | refine s_cond_c ?_ ?_) <;> intro hb <;> rw [hb] <;> (try simp only [decide_eq_true_eq, decide_eq_false_iff_not, beq_iff_eq, bne_iff_ne, beq_eq_false_iff_ne, bne_eq_false_iff_eq, ne_eq, Int.not_lt, Int.not_le, gt_iff_lt, ge_iff_le, Bool.not_eq_true', Bool.not_eq_false'] at hb)) | ((with_reducible first | refine s_ret ?_ | refine s_normal ?_); try simp only [x_tup0, x_tup1, x_tup2, x_tup3, x_tup4, x_tup5, and_true, true_and])))
  refine o_halloc ?_
  intro bk hbk
  have l1 : G.le (G.put bk (.cells #[.map none] 61)) := GH.le_put _ hbk
  have hb1 : (G.put bk (.cells #[.map none] 61)) bk = some (bx (.map none) 61) := GH.put_same _ _ _
  generalize G.put bk _ = G1 at l1 hb1 ⊢
  have c1 := nobodyP (h.up l1)
  have q1' := l1 _ _ q1
  (repeat' (first | (with_reducible refine i_ops ?_; first | (refine g_mv ?_; refine s_mv ?_) | refine o_nil ?_ | (refine g_pure ?_; first | refine s_nilPf ?_ | refine s_nilPt ?_ | refine s_nilNf ?_ | refine s_nilNt ?_ | refine s_nilck ?_ | refine s_fptr0 ?_ | refine s_seq0 ?_ | refine s_lenSB ?_ | refine s_pure ?_ | refine s_saddB ?_) | (refine g_hload ?_; first | refine s_hbx ?_ | refine s_d0 ?_ | refine s_d1 ?_ | refine s_d2 ?_ | refine s_d3 ?_ | refine s_d4 ?_ | refine s_d5 ?_ | refine s_d6 ?_ | refine s_hloadP ?_) | (refine g_hstore ?_; (refine s_hstoreB ?_; intro G' hle ho hkp)) | refine o_callp qrf (by first | exact c1) ?_ | (refine o_callg qrf (by first | exact c1) ?_; intro G' hle)) | (with_reducible refine i_vc ?_; first | refine v_seq ?_ | refine v_ops ?_ | (refine g_cond ?_; first | refine s_cond_t ?_ | refine s_cond_f ?_) | refine v_block ?_ | refine v_skip ?_ | refine v_exit ?_ | refine v_ret ?_) | (with_reducible first | refine n_then ?_ | refine r_then ?_ | refine e_then ?_ | refine n_block ?_ | refine r_block ?_ | refine e_block_eq qrf ?_ | refine e_block_ne qrf ?_) | ((with_reducible first | refine s_cond_c ?_ ?_) <;> intro hb <;> rw [hb] <;> (try simp only [decide_eq_true_eq, decide_eq_false_iff_not, beq_iff_eq, bne_iff_ne, beq_eq_false_iff_ne, bne_eq_false_iff_eq, ne_eq, Int.not_lt, Int.not_le, gt_iff_lt, ge_iff_le, Bool.not_eq_true', Bool.not_eq_false'] at hb)) | ((with_reducible first | refine s_ret ?_ | refine s_normal ?_); try simp only [x_tup0, x_tup1, x_tup2, x_tup3, x_tup4, x_tup5, and_true, true_and])))
  refine o_callc qrf (cloneO mb mo m G1 (l1 _ _ n1) n2) ?_
  rintro _ G2 ⟨bm, hbm, rfl, rfl⟩
  have l2 : G1.le (G1.put bm mo) := GH.le_put _ hbm
  have hb2 : (G1.put bm mo) bk = some (bx (.map none) 61) := l2 _ _ hb1
  have hm2 : (G1.put bm mo) bm = some mo := GH.put_same _ _ _
  generalize G1.put bm mo = G2 at l2 hb2 hm2 ⊢
  (repeat' (first | (with_reducible refine i_ops ?_; first | (refine g_mv ?_; refine s_mv ?_) | refine o_nil ?_ | (refine g_pure ?_; first | refine s_nilPf ?_ | refine s_nilPt ?_ | refine s_nilNf ?_ | refine s_nilNt ?_ | refine s_nilck ?_ | refine s_fptr0 ?_ | refine s_seq0 ?_ | refine s_lenSB ?_ | refine s_pure ?_ | refine s_saddB ?_) | (refine g_hload ?_; first | refine s_hbx ?_ | refine s_d0 ?_ | refine s_d1 ?_ | refine s_d2 ?_ | refine s_d3 ?_ | refine s_d4 ?_ | refine s_d5 ?_ | refine s_d6 ?_ | refine s_hloadP ?_) | (refine g_hstore ?_; (refine s_hstoreB ?_; intro G' hle ho hkp))) | (with_reducible refine i_vc ?_; first | refine v_seq ?_ | refine v_ops ?_ | (refine g_cond ?_; first | refine s_cond_t ?_ | refine s_cond_f ?_) | refine v_block ?_ | refine v_skip ?_ | refine v_exit ?_ | refine v_ret ?_) | (with_reducible first | refine n_then ?_ | refine r_then ?_ | refine e_then ?_ | refine n_block ?_ | refine r_block ?_ | refine e_block_eq qrf ?_ | refine e_block_ne qrf ?_) | ((with_reducible first | refine s_cond_c ?_ ?_) <;> intro hb <;> rw [hb] <;> (try simp only [decide_eq_true_eq, decide_eq_false_iff_not, beq_iff_eq, bne_iff_ne, beq_eq_false_iff_ne, bne_eq_false_iff_eq, ne_eq, Int.not_lt, Int.not_le, gt_iff_lt, ge_iff_le, Bool.not_eq_true', Bool.not_eq_false'] at hb)) | ((with_reducible first | refine s_ret ?_ | refine s_normal ?_); try simp only [x_tup0, x_tup1, x_tup2, x_tup3, x_tup4, x_tup5, and_true, true_and])))
  refine o_setv (.map (some bm)) qrf hb2 qrf rfl rfl ?_
  intro G3 k3 v3
  (repeat' (first | (with_reducible refine i_ops ?_; first | (refine g_mv ?_; refine s_mv ?_) | refine o_nil ?_ | (refine g_pure ?_; first | refine s_nilPf ?_ | refine s_nilPt ?_ | refine s_nilNf ?_ | refine s_nilNt ?_ | refine s_nilck ?_ | refine s_fptr0 ?_ | refine s_seq0 ?_ | refine s_lenSB ?_ | refine s_pure ?_ | refine s_saddB ?_) | (refine g_hload ?_; first | refine s_hbx ?_ | refine s_d0 ?_ | refine s_d1 ?_ | refine s_d2 ?_ | refine s_d3 ?_ | refine s_d4 ?_ | refine s_d5 ?_ | refine s_d6 ?_ | refine s_hloadP ?_) | (refine g_hstore ?_; (refine s_hstoreB ?_; intro G' hle ho hkp))) | (with_reducible refine i_vc ?_; first | refine v_seq ?_ | refine v_ops ?_ | (refine g_cond ?_; first | refine s_cond_t ?_ | refine s_cond_f ?_) | refine v_block ?_ | refine v_skip ?_ | refine v_exit ?_ | refine v_ret ?_) | (with_reducible first | refine n_then ?_ | refine r_then ?_ | refine e_then ?_ | refine n_block ?_ | refine r_block ?_ | refine e_block_eq qrf ?_ | refine e_block_ne qrf ?_) | ((with_reducible first | refine s_cond_c ?_ ?_) <;> intro hb <;> rw [hb] <;> (try simp only [decide_eq_true_eq, decide_eq_false_iff_not, beq_iff_eq, bne_iff_ne, beq_eq_false_iff_ne, bne_eq_false_iff_eq, ne_eq, Int.not_lt, Int.not_le, gt_iff_lt, ge_iff_le, Bool.not_eq_true', Bool.not_eq_false'] at hb)) | ((with_reducible first | refine s_ret ?_ | refine s_normal ?_); try simp only [x_tup0, x_tup1, x_tup2, x_tup3, x_tup4, x_tup5, and_true, true_and])))
  refine o_pure (v := .func (.func 44) #[] #[pt bk]) qrf rfl ?_
  (repeat' (first | (with_reducible refine i_ops ?_; first | (refine g_mv ?_; refine s_mv ?_) | refine o_nil ?_ | (refine g_pure ?_; first | refine s_nilPf ?_ | refine s_nilPt ?_ | refine s_nilNf ?_ | refine s_nilNt ?_ | refine s_nilck ?_ | refine s_fptr0 ?_ | refine s_seq0 ?_ | refine s_lenSB ?_ | refine s_pure ?_ | refine s_saddB ?_) | (refine g_hload ?_; first | refine s_hbx ?_ | refine s_d0 ?_ | refine s_d1 ?_ | refine s_d2 ?_ | refine s_d3 ?_ | refine s_d4 ?_ | refine s_d5 ?_ | refine s_d6 ?_ | refine s_hloadP ?_) | (refine g_hstore ?_; (refine s_hstoreB ?_; intro G' hle ho hkp))) | (with_reducible refine i_vc ?_; first | refine v_seq ?_ | refine v_ops ?_ | (refine g_cond ?_; first | refine s_cond_t ?_ | refine s_cond_f ?_) | refine v_block ?_ | refine v_skip ?_ | refine v_exit ?_ | refine v_ret ?_) | (with_reducible first | refine n_then ?_ | refine r_then ?_ | refine e_then ?_ | refine n_block ?_ | refine r_block ?_ | refine e_block_eq qrf ?_ | refine e_block_ne qrf ?_) | ((with_reducible first | refine s_cond_c ?_ ?_) <;> intro hb <;> rw [hb] <;> (try simp only [decide_eq_true_eq, decide_eq_false_iff_not, beq_iff_eq, bne_iff_ne, beq_eq_false_iff_ne, bne_eq_false_iff_eq, ne_eq, Int.not_lt, Int.not_le, gt_iff_lt, ge_iff_le, Bool.not_eq_true', Bool.not_eq_false'] at hb)) | ((with_reducible first | refine s_ret ?_ | refine s_normal ?_); try simp only [x_tup0, x_tup1, x_tup2, x_tup3, x_tup4, x_tup5, and_true, true_and])))
  have hne : bm ≠ bk := fun e => by subst e; rw [hb1] at hbm; cases hbm
  have l3 : G.le G3 := le_but (GH.le_trans l1 l2) hbk k3
  have g1 : G bm = none := le_none l1 hbm
  refine ⟨l3, ⟨bk, bm, 61, mo, m, rfl, v3, by rw [k3 _ hne]; exact hm2, n2, n3, h.ok.nf, GH.le_trans h.le l3⟩, ⟨bk, bm, 61, mo, m, rfl, ?_, ?_, n2, n3, h.ok.nf, addF_le _ _ _⟩⟩
  · rw [addF_new (le_none h.le hbk) hbk]; exact v3
  · rw [addF_new (le_none h.le g1) g1, k3 _ hne]; exact hm2
theorem usF_take {fs : Fis} {k : Nat} (h : k < fs.length) : usF (fs.take (k + 1)) = usF (fs.take k) + fs[k].2.length := by
  unfold usF
  rw [List.take_succ_eq_append_getElem h, List.map_append, List.sum_append]
  simp
theorem usF_le (fs : Fis) (k : Nat) : usF (fs.take k) ≤ usF fs := by
  have : fs = fs.take k ++ fs.drop k := (List.take_append_drop k fs).symm
  have e : usF fs = usF (fs.take k) + usF (fs.drop k) := by
    conv => lhs; rw [this]
    unfold usF
    rw [List.map_append, List.sum_append]
  omega
theorem usedP (h : PD N I G b mb us A) (hN : N ≤ 1000000) : HC Try.prog 19 #[pt b] G fun v G' => v = .int .i64 A.used ∧ G.le G' := by
  refine HC.start comp19 rfl ?_; unfold pc19
  (repeat' (first | (with_reducible refine i_ops ?_; first | (refine g_mv ?_; refine s_mv ?_) | refine o_nil ?_ | (refine g_pure ?_; first | refine s_nilPf ?_ | refine s_nilPt ?_ | refine s_nilNf ?_ | refine s_nilNt ?_ | refine s_nilck ?_ | refine s_fptr0 ?_ | refine s_seq0 ?_ | refine s_lenSB ?_ | refine s_pure ?_ | refine s_saddB ?_) | (refine g_hload ?_; first | refine s_hbx ?_ | refine s_d0 ?_ | refine s_d1 ?_ | refine s_d2 ?_ | refine s_d3 ?_ | refine s_d4 ?_ | refine s_d5 ?_ | refine s_d6 ?_ | refine s_hloadP ?_) | (refine g_hstore ?_; (refine s_hstoreB ?_; intro G' hle ho hkp))) | (with_reducible refine i_vc ?_; first | refine v_seq ?_ | refine v_ops ?_ | (refine g_cond ?_; first | refine s_cond_t ?_ | refine s_cond_f ?_) | refine v_block ?_ | refine v_skip ?_ | refine v_exit ?_ | refine v_ret ?_) | (with_reducible first | refine n_then ?_ | refine r_then ?_ | refine e_then ?_ | refine n_block ?_ | refine r_block ?_ | refine e_block_eq qrf ?_ | refine e_block_ne qrf ?_) | ((with_reducible first | refine s_cond_c ?_ ?_) <;> intro hb <;> rw [hb] <;> (try simp only [decide_eq_true_eq, decide_eq_false_iff_not, beq_iff_eq, bne_iff_ne, beq_eq_false_iff_ne, bne_eq_false_iff_eq, ne_eq, Int.not_lt, Int.not_le, gt_iff_lt, ge_iff_le, Bool.not_eq_true', Bool.not_eq_false'] at hb)) | ((with_reducible first | refine s_ret ?_ | refine s_normal ?_); try simp only [x_tup0, x_tup1, x_tup2, x_tup3, x_tup4, x_tup5, and_true, true_and])))
  refine o_boxv (.int .i64 0) (fun b => by with_unfolding_all rfl) rfl rfl rfl ?_
  intro bn G1 hbn q1 hb1
  have c1 := namesP (h.up q1)
  (repeat' (first | (with_reducible refine i_ops ?_; first | (refine g_mv ?_; refine s_mv ?_) | refine o_nil ?_ | (refine g_pure ?_; first | refine s_nilPf ?_ | refine s_nilPt ?_ | refine s_nilNf ?_ | refine s_nilNt ?_ | refine s_nilck ?_ | refine s_fptr0 ?_ | refine s_seq0 ?_ | refine s_lenSB ?_ | refine s_pure ?_ | refine s_saddB ?_) | (refine g_hload ?_; first | refine s_hbx ?_ | refine s_d0 ?_ | refine s_d1 ?_ | refine s_d2 ?_ | refine s_d3 ?_ | refine s_d4 ?_ | refine s_d5 ?_ | refine s_d6 ?_ | refine s_hloadP ?_) | (refine g_hstore ?_; (refine s_hstoreB ?_; intro G' hle ho hkp))) | (with_reducible refine i_vc ?_; first | refine v_seq ?_ | refine v_ops ?_ | (refine g_cond ?_; first | refine s_cond_t ?_ | refine s_cond_f ?_) | refine v_block ?_ | refine v_skip ?_ | refine v_exit ?_ | refine v_ret ?_) | (with_reducible first | refine n_then ?_ | refine r_then ?_ | refine e_then ?_ | refine n_block ?_ | refine r_block ?_ | refine e_block_eq qrf ?_ | refine e_block_ne qrf ?_) | ((with_reducible first | refine s_cond_c ?_ ?_) <;> intro hb <;> rw [hb] <;> (try simp only [decide_eq_true_eq, decide_eq_false_iff_not, beq_iff_eq, bne_iff_ne, beq_eq_false_iff_ne, bne_eq_false_iff_eq, ne_eq, Int.not_lt, Int.not_le, gt_iff_lt, ge_iff_le, Bool.not_eq_true', Bool.not_eq_false'] at hb)) | ((with_reducible first | refine s_ret ?_ | refine s_normal ?_); try simp only [x_tup0, x_tup1, x_tup2, x_tup3, x_tup4, x_tup5, and_true, true_and])))
  refine o_callc qrf c1 ?_
  rintro _ G2 ⟨q2, _, bi, bm, t, o, m, rfl, g1, g2, g3, g4, g5, g6⟩
  have q12 := GH.le_trans q1 q2
  have hne : bi ≠ bn := fun e => by
    subst e
    rw [addF] at g1
    have e1 := le_none h.le hbn
    simp only [e1, hb1] at g1
    cases g1
  have hne2 : bm ≠ bn := fun e => by
    subst e
    rw [addF] at g2
    have e1 := le_none h.le hbn
    simp only [e1, hb1] at g2
    cases g2
  have gl : (addF I G1 G2).le G2 := addF_le2 (GH.le_trans h.le q12)
  have g1' : (unp G2 bn) bi = some (bx (.map (some bm)) t) := by rw [unp_ne hne]; exact gl _ _ g1
  have g2' : (unp G2 bn) bm = some o := by rw [unp_ne hne2]; exact gl _ _ g2
  have hIu : I.le (unp G2 bn) := le_unp (GH.le_trans h.le q12) (le_none h.le hbn)
  have hus := h.ok.nf.us
  (repeat' (first | (with_reducible refine i_ops ?_; first | (refine g_mv ?_; refine s_mv ?_) | refine o_nil ?_ | (refine g_pure ?_; first | refine s_nilPf ?_ | refine s_nilPt ?_ | refine s_nilNf ?_ | refine s_nilNt ?_ | refine s_nilck ?_ | refine s_fptr0 ?_ | refine s_seq0 ?_ | refine s_lenSB ?_ | refine s_pure ?_ | refine s_saddB ?_) | (refine g_hload ?_; first | refine s_hbx ?_ | refine s_d0 ?_ | refine s_d1 ?_ | refine s_d2 ?_ | refine s_d3 ?_ | refine s_d4 ?_ | refine s_d5 ?_ | refine s_d6 ?_ | refine s_hloadP ?_) | (refine g_hstore ?_; (refine s_hstoreB ?_; intro G' hle ho hkp))) | (with_reducible refine i_vc ?_; first | refine v_seq ?_ | refine v_ops ?_ | (refine g_cond ?_; first | refine s_cond_t ?_ | refine s_cond_f ?_) | refine v_block ?_ | refine v_skip ?_ | refine v_exit ?_ | refine v_ret ?_) | (with_reducible first | refine n_then ?_ | refine r_then ?_ | refine e_then ?_ | refine n_block ?_ | refine r_block ?_ | refine e_block_eq qrf ?_ | refine e_block_ne qrf ?_) | ((with_reducible first | refine s_cond_c ?_ ?_) <;> intro hb <;> rw [hb] <;> (try simp only [decide_eq_true_eq, decide_eq_false_iff_not, beq_iff_eq, bne_iff_ne, beq_eq_false_iff_ne, bne_eq_false_iff_eq, ne_eq, Int.not_lt, Int.not_le, gt_iff_lt, ge_iff_le, Bool.not_eq_true', Bool.not_eq_false'] at hb)) | ((with_reducible first | refine s_ret ?_ | refine s_normal ?_); try simp only [x_tup0, x_tup1, x_tup2, x_tup3, x_tup4, x_tup5, and_true, true_and])))
  refine v_range (gf := 44) (lb := [pt bi]) (unp G2 bn) A.now.length (FilI A.now) (fun k H => (unp G2 bn).le H ∧ H bn = some (bx (.int .i64 (usF (A.now.take k))) 3)) (fun _ _ => False) [(3, pt bn)] qhs rfl qrf qrf (namesItF g1' g2' g3 g4 g5 hN)
    (fun k H H' ⟨h1, h2⟩ hle => ⟨GH.le_trans h1 hle, hle _ _ h2⟩) (fun _ _ _ h _ => h) (fun k H h => h.1) ⟨unp_le _ _, q2 _ _ hb1⟩ ?_ ?_ (fun _ h => h.elim) (fun _ _ h => h.elim)
  · rintro k x H0 H1 hk ⟨j1, j2⟩ hl ⟨hk', rfl⟩
    refine ⟨rfl, fun s l => ?_⟩
    have j2' := hl _ _ j2
    have b1 := usF_le A.now (k + 1)
    have b2 := usF_take hk'
    (repeat' (first | (with_reducible refine i_ops ?_; first | (refine g_mv ?_; refine s_mv ?_) | refine o_nil ?_ | (refine g_pure ?_; first | refine s_nilPf ?_ | refine s_nilPt ?_ | refine s_nilNf ?_ | refine s_nilNt ?_ | refine s_nilck ?_ | refine s_fptr0 ?_ | refine s_seq0 ?_ | refine s_lenSB ?_ | refine s_pure ?_ | refine s_saddB ?_) | (refine g_hload ?_; first | refine s_hbx ?_ | refine s_d0 ?_ | refine s_d1 ?_ | refine s_d2 ?_ | refine s_d3 ?_ | refine s_d4 ?_ | refine s_d5 ?_ | refine s_d6 ?_ | refine s_hloadP ?_) | (refine g_hstore ?_; (refine s_hstoreB ?_; intro G' hle ho hkp))) | (with_reducible refine i_vc ?_; first | refine v_seq ?_ | refine v_ops ?_ | (refine g_cond ?_; first | refine s_cond_t ?_ | refine s_cond_f ?_) | refine v_block ?_ | refine v_skip ?_ | refine v_exit ?_ | refine v_ret ?_) | (with_reducible first | refine n_then ?_ | refine r_then ?_ | refine e_then ?_ | refine n_block ?_ | refine r_block ?_ | refine e_block_eq qrf ?_ | refine e_block_ne qrf ?_) | ((with_reducible first | refine s_cond_c ?_ ?_) <;> intro hb <;> rw [hb] <;> (try simp only [decide_eq_true_eq, decide_eq_false_iff_not, beq_iff_eq, bne_iff_ne, beq_eq_false_iff_ne, bne_eq_false_iff_eq, ne_eq, Int.not_lt, Int.not_le, gt_iff_lt, ge_iff_le, Bool.not_eq_true', Bool.not_eq_false'] at hb)) | ((with_reducible first | refine s_ret ?_ | refine s_normal ?_); try simp only [x_tup0, x_tup1, x_tup2, x_tup3, x_tup4, x_tup5, and_true, true_and])))
    refine o_setv (.int .i64 ((usF (A.now.take k) : Int) + A.now[k].2.length)) qrf j2' qrf rfl rfl ?_
    intro H2 k2 v2
    (repeat' (first | (with_reducible refine i_ops ?_; first | (refine g_mv ?_; refine s_mv ?_) | refine o_nil ?_ | (refine g_pure ?_; first | refine s_nilPf ?_ | refine s_nilPt ?_ | refine s_nilNf ?_ | refine s_nilNt ?_ | refine s_nilck ?_ | refine s_fptr0 ?_ | refine s_seq0 ?_ | refine s_lenSB ?_ | refine s_pure ?_ | refine s_saddB ?_) | (refine g_hload ?_; first | refine s_hbx ?_ | refine s_d0 ?_ | refine s_d1 ?_ | refine s_d2 ?_ | refine s_d3 ?_ | refine s_d4 ?_ | refine s_d5 ?_ | refine s_d6 ?_ | refine s_hloadP ?_) | (refine g_hstore ?_; (refine s_hstoreB ?_; intro G' hle ho hkp))) | (with_reducible refine i_vc ?_; first | refine v_seq ?_ | refine v_ops ?_ | (refine g_cond ?_; first | refine s_cond_t ?_ | refine s_cond_f ?_) | refine v_block ?_ | refine v_skip ?_ | refine v_exit ?_ | refine v_ret ?_) | (with_reducible first | refine n_then ?_ | refine r_then ?_ | refine e_then ?_ | refine n_block ?_ | refine r_block ?_ | refine e_block_eq qrf ?_ | refine e_block_ne qrf ?_) | ((with_reducible first | refine s_cond_c ?_ ?_) <;> intro hb <;> rw [hb] <;> (try simp only [decide_eq_true_eq, decide_eq_false_iff_not, beq_iff_eq, bne_iff_ne, beq_eq_false_iff_ne, bne_eq_false_iff_eq, ne_eq, Int.not_lt, Int.not_le, gt_iff_lt, ge_iff_le, Bool.not_eq_true', Bool.not_eq_false'] at hb)) | ((with_reducible first | refine s_ret ?_ | refine s_normal ?_); try simp only [x_tup0, x_tup1, x_tup2, x_tup3, x_tup4, x_tup5, and_true, true_and])))
    refine ⟨le_but (GH.le_trans j1 hl) (unp_self _ _) k2, ?_⟩
    show H2 bn = _
    rw [v2, b2, Int.natCast_add]
  · rintro H ⟨i1, i2⟩
    rw [List.take_length] at i2
    (repeat' (first | (with_reducible refine i_ops ?_; first | (refine g_mv ?_; refine s_mv ?_) | refine o_nil ?_ | (refine g_pure ?_; first | refine s_nilPf ?_ | refine s_nilPt ?_ | refine s_nilNf ?_ | refine s_nilNt ?_ | refine s_nilck ?_ | refine s_fptr0 ?_ | refine s_seq0 ?_ | refine s_lenSB ?_ | refine s_pure ?_ | refine s_saddB ?_) | (refine g_hload ?_; first | refine s_hbx ?_ | refine s_d0 ?_ | refine s_d1 ?_ | refine s_d2 ?_ | refine s_d3 ?_ | refine s_d4 ?_ | refine s_d5 ?_ | refine s_d6 ?_ | refine s_hloadP ?_) | (refine g_hstore ?_; (refine s_hstoreB ?_; intro G' hle ho hkp))) | (with_reducible refine i_vc ?_; first | refine v_seq ?_ | refine v_ops ?_ | (refine g_cond ?_; first | refine s_cond_t ?_ | refine s_cond_f ?_) | refine v_block ?_ | refine v_skip ?_ | refine v_exit ?_ | refine v_ret ?_) | (with_reducible first | refine n_then ?_ | refine r_then ?_ | refine e_then ?_ | refine n_block ?_ | refine r_block ?_ | refine e_block_eq qrf ?_ | refine e_block_ne qrf ?_) | ((with_reducible first | refine s_cond_c ?_ ?_) <;> intro hb <;> rw [hb] <;> (try simp only [decide_eq_true_eq, decide_eq_false_iff_not, beq_iff_eq, bne_iff_ne, beq_eq_false_iff_ne, bne_eq_false_iff_eq, ne_eq, Int.not_lt, Int.not_le, gt_iff_lt, ge_iff_le, Bool.not_eq_true', Bool.not_eq_false'] at hb)) | ((with_reducible first | refine s_ret ?_ | refine s_normal ?_); try simp only [x_tup0, x_tup1, x_tup2, x_tup3, x_tup4, x_tup5, and_true, true_and])))
    exact ⟨rfl, GH.le_trans (le_unp q12 hbn) i1⟩
end
end Go.Proofs.Ytbmhdmkmnhaffaa.V
end
