/- Crash. -/
import Derived.Test.YtbmhdmkmnhaffaaSYZEHEK
import Derived.Test.YtbmhdmkmnhaffaaSYZDMEC
section
set_option linter.unusedVariables false
set_option linter.unusedSimpArgs false
-- @pre g_hload s_hbx s_d0 s_d1 s_d2 s_d3 s_d4 s_d5 s_d6
-- @extra s_nilPf s_nilPt s_nilNf s_nilNt s_nilck s_fptr0 s_seq0 s_lenSB
namespace Go.Proofs.Ytbmhdmkmnhaffaa.V
open Go.RowKit Go.ChangeShapes Go.WideShapes
section
variable {N : Nat} {I G : GH} {b mb : Nat} {us : Value} {A : AD}
theorem burnW {room : Int} {nw ls us : Value} {gone : Bool} {t : TypeId} {k : Int} (hb : G b = some (.cells (dc true room nw ls us (-1) gone) t (0, 0))) : HC Try.prog 33 #[pt b, .int .i64 k] G fun v G' => v = .int .i64 k ∧ G' = G := by
  refine HC.start comp33 rfl ?_; unfold pc33
  (repeat' (first | (with_reducible refine i_ops ?_; first | (refine g_mv ?_; refine s_mv ?_) | refine o_nil ?_ | (refine g_len ?_; first | refine s_lenB ?_ | refine s_pure ?_) | (refine g_idx ?_; first | (refine s_idxOB ?_; intro p hp hpw) | (refine s_idxB ?_; intro p hp)) | (refine g_pure ?_; first | refine s_nilPf ?_ | refine s_nilPt ?_ | refine s_nilNf ?_ | refine s_nilNt ?_ | refine s_nilck ?_ | refine s_fptr0 ?_ | refine s_seq0 ?_ | refine s_lenSB ?_ | refine s_pure ?_ | refine s_saddB ?_) | (refine g_lfield ?_; refine s_lfield ?_) | (refine g_lload ?_; refine s_lload ?_) | (refine g_lstore ?_; first | refine s_lstoreA ?_ | refine s_lstore ?_) | (refine g_lalloc ?_; refine s_lalloc ?_) | (refine g_hload ?_; first | refine s_hbx ?_ | refine s_d0 ?_ | refine s_d1 ?_ | refine s_d2 ?_ | refine s_d3 ?_ | refine s_d4 ?_ | refine s_d5 ?_ | refine s_d6 ?_ | refine s_hloadP ?_) | (refine g_hstore ?_; (refine s_hstoreB ?_; intro G' hle ho hkp))) | (with_reducible refine i_vc ?_; first | refine v_seq ?_ | refine v_ops ?_ | (refine g_cond ?_; first | refine s_cond_t ?_ | refine s_cond_f ?_) | refine v_block ?_ | refine v_skip ?_ | refine v_exit ?_ | refine v_ret ?_ | refine s_drawl ?_ | refine v_draw0 ?_) | (with_reducible refine i_plan ?_; first | refine p_done ?_ | refine s_pre ?_ | refine s_preN ?_ | refine s_ag_t ?_ | refine s_ag_f ?_ | refine s_alt ?_ | refine p_alt ?_ ?_) | (with_reducible first | refine n_then ?_ | refine r_then ?_ | refine e_then ?_ | refine n_block ?_ | refine r_block ?_ | refine e_block_eq qrf ?_ | refine e_block_ne qrf ?_ | (refine g_stand ?_; first | refine s_stand ?_ | refine s_standL ?_)) | ((with_reducible first | refine s_cond_c ?_ ?_) <;> intro hb <;> rw [hb] <;> (try simp only [decide_eq_true_eq, decide_eq_false_iff_not, beq_iff_eq, bne_iff_ne, beq_eq_false_iff_ne, bne_eq_false_iff_eq, ne_eq, Int.not_lt, Int.not_le, gt_iff_lt, ge_iff_le, Bool.not_eq_true', Bool.not_eq_false'] at hb)) | ((with_reducible first | refine s_ret ?_ | refine s_normal ?_); try simp only [x_tup0, x_tup1, x_tup2, x_tup3, x_tup4, x_tup5, and_true, true_and])))
theorem syncW {room : Int} {us ls : Value} {t : TypeId} {mo : Obj} {m : AM} (hb : G b = some (.cells (dc true room (.map (some mb)) ls us (-1) false) t (0, 0))) (hm : G mb = some mo) (hmm : MapO mo m) : HC Try.prog 11 #[pt b] G fun v G' => v = .int .i64 0 ∧ ∃ lb, G lb = none ∧ G' lb = some mo ∧ G' b = some (.cells (dc true room (.map (some mb)) (.map (some lb)) (.slice none 0 0) (-1) false) t (0, 0)) ∧ ∀ c o, c ≠ b → G c = some o → G' c = some o := by
  have c1 : HC Try.prog 32 #[pt b] G fun v G' => v = .int .i64 0 ∧ G' = G := powerF hb
  have c2 := burnW (k := 1) hb
  refine HC.start comp11 rfl ?_; unfold pc11
  (repeat' (first | (with_reducible refine i_ops ?_; first | (refine g_mv ?_; refine s_mv ?_) | refine o_nil ?_ | (refine g_len ?_; first | refine s_lenB ?_ | refine s_pure ?_) | (refine g_idx ?_; first | (refine s_idxOB ?_; intro p hp hpw) | (refine s_idxB ?_; intro p hp)) | (refine g_pure ?_; first | refine s_nilPf ?_ | refine s_nilPt ?_ | refine s_nilNf ?_ | refine s_nilNt ?_ | refine s_nilck ?_ | refine s_fptr0 ?_ | refine s_seq0 ?_ | refine s_lenSB ?_ | refine s_pure ?_ | refine s_saddB ?_) | (refine g_lfield ?_; refine s_lfield ?_) | (refine g_lload ?_; refine s_lload ?_) | (refine g_lstore ?_; first | refine s_lstoreA ?_ | refine s_lstore ?_) | (refine g_lalloc ?_; refine s_lalloc ?_) | (refine g_hload ?_; first | refine s_hbx ?_ | refine s_d0 ?_ | refine s_d1 ?_ | refine s_d2 ?_ | refine s_d3 ?_ | refine s_d4 ?_ | refine s_d5 ?_ | refine s_d6 ?_ | refine s_hloadP ?_) | (refine g_hstore ?_; (refine s_hstoreB ?_; intro G' hle ho hkp)) | refine o_callp qrf (by first | exact c1 | exact c2) ?_ | (refine o_callg qrf (by first | exact c1 | exact c2) ?_; intro G' hle)) | (with_reducible refine i_vc ?_; first | refine v_seq ?_ | refine v_ops ?_ | (refine g_cond ?_; first | refine s_cond_t ?_ | refine s_cond_f ?_) | refine v_block ?_ | refine v_skip ?_ | refine v_exit ?_ | refine v_ret ?_ | refine s_drawl ?_ | refine v_draw0 ?_) | (with_reducible refine i_plan ?_; first | refine p_done ?_ | refine s_pre ?_ | refine s_preN ?_ | refine s_ag_t ?_ | refine s_ag_f ?_ | refine p_callp qrf (by first | exact c1 | exact c2) qle ?_ p_no | (refine p_callg qrf (by first | exact c1 | exact c2) qle ?_ p_no; intro G' hle) | refine s_alt ?_ | refine p_alt ?_ ?_) | (with_reducible first | refine n_then ?_ | refine r_then ?_ | refine e_then ?_ | refine n_block ?_ | refine r_block ?_ | refine e_block_eq qrf ?_ | refine e_block_ne qrf ?_ | (refine g_stand ?_; first | refine s_stand ?_ | refine s_standL ?_)) | ((with_reducible first | refine s_cond_c ?_ ?_) <;> intro hb <;> rw [hb] <;> (try simp only [decide_eq_true_eq, decide_eq_false_iff_not, beq_iff_eq, bne_iff_ne, beq_eq_false_iff_ne, bne_eq_false_iff_eq, ne_eq, Int.not_lt, Int.not_le, gt_iff_lt, ge_iff_le, Bool.not_eq_true', Bool.not_eq_false'] at hb)) | ((with_reducible first | refine s_ret ?_ | refine s_normal ?_); try simp only [x_tup0, x_tup1, x_tup2, x_tup3, x_tup4, x_tup5, and_true, true_and])))
  refine o_callc qrf (cloneO mb mo m G hm hmm) ?_
  rintro _ G2 ⟨bm, hbm, rfl, rfl⟩
  have l2 : G.le (G.put bm mo) := GH.le_put _ hbm
  have hm2 : (G.put bm mo) bm = some mo := GH.put_same _ _ _
  generalize G.put bm mo = G2 at l2 hm2 ⊢
  have q3 := l2 _ _ hb
  (repeat' (first | (with_reducible refine i_ops ?_; first | (refine g_mv ?_; refine s_mv ?_) | refine o_nil ?_ | (refine g_len ?_; first | refine s_lenB ?_ | refine s_pure ?_) | (refine g_idx ?_; first | (refine s_idxOB ?_; intro p hp hpw) | (refine s_idxB ?_; intro p hp)) | (refine g_pure ?_; first | refine s_nilPf ?_ | refine s_nilPt ?_ | refine s_nilNf ?_ | refine s_nilNt ?_ | refine s_nilck ?_ | refine s_fptr0 ?_ | refine s_seq0 ?_ | refine s_lenSB ?_ | refine s_pure ?_ | refine s_saddB ?_) | (refine g_lfield ?_; refine s_lfield ?_) | (refine g_lload ?_; refine s_lload ?_) | (refine g_lstore ?_; first | refine s_lstoreA ?_ | refine s_lstore ?_) | (refine g_lalloc ?_; refine s_lalloc ?_) | (refine g_hload ?_; first | refine s_hbx ?_ | refine s_d0 ?_ | refine s_d1 ?_ | refine s_d2 ?_ | refine s_d3 ?_ | refine s_d4 ?_ | refine s_d5 ?_ | refine s_d6 ?_ | refine s_hloadP ?_) | (refine g_hstore ?_; (refine s_hstoreB ?_; intro G' hle ho hkp))) | (with_reducible refine i_vc ?_; first | refine v_seq ?_ | refine v_ops ?_ | (refine g_cond ?_; first | refine s_cond_t ?_ | refine s_cond_f ?_) | refine v_block ?_ | refine v_skip ?_ | refine v_exit ?_ | refine v_ret ?_ | refine s_drawl ?_ | refine v_draw0 ?_) | (with_reducible refine i_plan ?_; first | refine p_done ?_ | refine s_pre ?_ | refine s_preN ?_ | refine s_ag_t ?_ | refine s_ag_f ?_ | refine s_alt ?_ | refine p_alt ?_ ?_) | (with_reducible first | refine n_then ?_ | refine r_then ?_ | refine e_then ?_ | refine n_block ?_ | refine r_block ?_ | refine e_block_eq qrf ?_ | refine e_block_ne qrf ?_ | (refine g_stand ?_; first | refine s_stand ?_ | refine s_standL ?_)) | ((with_reducible first | refine s_cond_c ?_ ?_) <;> intro hb <;> rw [hb] <;> (try simp only [decide_eq_true_eq, decide_eq_false_iff_not, beq_iff_eq, bne_iff_ne, beq_eq_false_iff_ne, bne_eq_false_iff_eq, ne_eq, Int.not_lt, Int.not_le, gt_iff_lt, ge_iff_le, Bool.not_eq_true', Bool.not_eq_false'] at hb)) | ((with_reducible first | refine s_ret ?_ | refine s_normal ?_); try simp only [x_tup0, x_tup1, x_tup2, x_tup3, x_tup4, x_tup5, and_true, true_and])))
  refine o_hst (q := 3) qrf qrf q3 rfl rfl (by show 3 < 7; decide) rfl ?_
  intro G3 g3 k3
  (repeat' (first | (with_reducible refine i_ops ?_; first | (refine g_mv ?_; refine s_mv ?_) | refine o_nil ?_ | (refine g_len ?_; first | refine s_lenB ?_ | refine s_pure ?_) | (refine g_idx ?_; first | (refine s_idxOB ?_; intro p hp hpw) | (refine s_idxB ?_; intro p hp)) | (refine g_pure ?_; first | refine s_nilPf ?_ | refine s_nilPt ?_ | refine s_nilNf ?_ | refine s_nilNt ?_ | refine s_nilck ?_ | refine s_fptr0 ?_ | refine s_seq0 ?_ | refine s_lenSB ?_ | refine s_pure ?_ | refine s_saddB ?_) | (refine g_lfield ?_; refine s_lfield ?_) | (refine g_lload ?_; refine s_lload ?_) | (refine g_lstore ?_; first | refine s_lstoreA ?_ | refine s_lstore ?_) | (refine g_lalloc ?_; refine s_lalloc ?_) | (refine g_hload ?_; first | refine s_hbx ?_ | refine s_d0 ?_ | refine s_d1 ?_ | refine s_d2 ?_ | refine s_d3 ?_ | refine s_d4 ?_ | refine s_d5 ?_ | refine s_d6 ?_ | refine s_hloadP ?_) | (refine g_hstore ?_; (refine s_hstoreB ?_; intro G' hle ho hkp))) | (with_reducible refine i_vc ?_; first | refine v_seq ?_ | refine v_ops ?_ | (refine g_cond ?_; first | refine s_cond_t ?_ | refine s_cond_f ?_) | refine v_block ?_ | refine v_skip ?_ | refine v_exit ?_ | refine v_ret ?_ | refine s_drawl ?_ | refine v_draw0 ?_) | (with_reducible refine i_plan ?_; first | refine p_done ?_ | refine s_pre ?_ | refine s_preN ?_ | refine s_ag_t ?_ | refine s_ag_f ?_ | refine s_alt ?_ | refine p_alt ?_ ?_) | (with_reducible first | refine n_then ?_ | refine r_then ?_ | refine e_then ?_ | refine n_block ?_ | refine r_block ?_ | refine e_block_eq qrf ?_ | refine e_block_ne qrf ?_ | (refine g_stand ?_; first | refine s_stand ?_ | refine s_standL ?_)) | ((with_reducible first | refine s_cond_c ?_ ?_) <;> intro hb <;> rw [hb] <;> (try simp only [decide_eq_true_eq, decide_eq_false_iff_not, beq_iff_eq, bne_iff_ne, beq_eq_false_iff_ne, bne_eq_false_iff_eq, ne_eq, Int.not_lt, Int.not_le, gt_iff_lt, ge_iff_le, Bool.not_eq_true', Bool.not_eq_false'] at hb)) | ((with_reducible first | refine s_ret ?_ | refine s_normal ?_); try simp only [x_tup0, x_tup1, x_tup2, x_tup3, x_tup4, x_tup5, and_true, true_and])))
  refine o_hst (q := 4) qrf qrf g3 rfl rfl (by show 4 < 7; decide) rfl ?_
  intro G4 g4 k4
  (repeat' (first | (with_reducible refine i_ops ?_; first | (refine g_mv ?_; refine s_mv ?_) | refine o_nil ?_ | (refine g_len ?_; first | refine s_lenB ?_ | refine s_pure ?_) | (refine g_idx ?_; first | (refine s_idxOB ?_; intro p hp hpw) | (refine s_idxB ?_; intro p hp)) | (refine g_pure ?_; first | refine s_nilPf ?_ | refine s_nilPt ?_ | refine s_nilNf ?_ | refine s_nilNt ?_ | refine s_nilck ?_ | refine s_fptr0 ?_ | refine s_seq0 ?_ | refine s_lenSB ?_ | refine s_pure ?_ | refine s_saddB ?_) | (refine g_lfield ?_; refine s_lfield ?_) | (refine g_lload ?_; refine s_lload ?_) | (refine g_lstore ?_; first | refine s_lstoreA ?_ | refine s_lstore ?_) | (refine g_lalloc ?_; refine s_lalloc ?_) | (refine g_hload ?_; first | refine s_hbx ?_ | refine s_d0 ?_ | refine s_d1 ?_ | refine s_d2 ?_ | refine s_d3 ?_ | refine s_d4 ?_ | refine s_d5 ?_ | refine s_d6 ?_ | refine s_hloadP ?_) | (refine g_hstore ?_; (refine s_hstoreB ?_; intro G' hle ho hkp))) | (with_reducible refine i_vc ?_; first | refine v_seq ?_ | refine v_ops ?_ | (refine g_cond ?_; first | refine s_cond_t ?_ | refine s_cond_f ?_) | refine v_block ?_ | refine v_skip ?_ | refine v_exit ?_ | refine v_ret ?_ | refine s_drawl ?_ | refine v_draw0 ?_) | (with_reducible refine i_plan ?_; first | refine p_done ?_ | refine s_pre ?_ | refine s_preN ?_ | refine s_ag_t ?_ | refine s_ag_f ?_ | refine s_alt ?_ | refine p_alt ?_ ?_) | (with_reducible first | refine n_then ?_ | refine r_then ?_ | refine e_then ?_ | refine n_block ?_ | refine r_block ?_ | refine e_block_eq qrf ?_ | refine e_block_ne qrf ?_ | (refine g_stand ?_; first | refine s_stand ?_ | refine s_standL ?_)) | ((with_reducible first | refine s_cond_c ?_ ?_) <;> intro hb <;> rw [hb] <;> (try simp only [decide_eq_true_eq, decide_eq_false_iff_not, beq_iff_eq, bne_iff_ne, beq_eq_false_iff_ne, bne_eq_false_iff_eq, ne_eq, Int.not_lt, Int.not_le, gt_iff_lt, ge_iff_le, Bool.not_eq_true', Bool.not_eq_false'] at hb)) | ((with_reducible first | refine s_ret ?_ | refine s_normal ?_); try simp only [x_tup0, x_tup1, x_tup2, x_tup3, x_tup4, x_tup5, and_true, true_and])))
  have kk : ∀ c, c ≠ b → G4 c = G2 c := fun c hc => (k4 c hc).trans (k3 c hc)
  have nb : bm ≠ b := fun e => by subst e; rw [hb] at hbm; cases hbm
  exact ⟨bm, hbm, by rw [kk _ nb]; exact hm2, g4, fun c o hc ho => by rw [kk c hc]; exact l2 _ _ ho⟩
/-- A disk in the middle of a crash. -/
structure CrS (N : Nat) (I H : GH) (b mb lb : Nat) (t : TypeId) (us : Value) (A : AD) (xs : List Value) (i left : Nat) (F Z : Fis) : Prop where
  le : I.le H
  ib : I b = none
  im : I mb = none
  bm : b ≠ mb
  um : blkS us ≠ some mb
  cell : H b = some (.cells (dc true A.room (.map (some mb)) (.map (some lb)) us (-1) false) t (0, 0))
  now : ∃ mo m, H mb = some mo ∧ MapO mo m ∧ MR I m F
  un : UnF I A.units xs
  own : Own 2 I H us xs
  fine : Fine N F
  ok : left = 0 ∨ okUs N (A.units.drop i) F
  goal : apN (A.units.drop i) left F = Z
theorem crashP (h : PD N I G b mb us A) (hN : N ≤ 1000000) (keep : Int) (hk1 : -9223372036854775808 ≤ keep) (hk2 : keep ≤ 9223372036854775807) : HC Try.prog 15 #[pt b, .int .i64 keep] G fun v G' => v = .int .i64 (A.crash keep).2 ∧ ∃ I' mb', I.le I' ∧ G mb' = none ∧ PD N I' G' b mb' (.slice none 0 0) (A.crash keep).1 := by
  have c1 := nobodyP h
  have c2 := pendingP h hN
  have hOk := h.ok.crash keep
  obtain ⟨lb, t, q1, lo, lm, r1, r2, r3⟩ := h.cell
  obtain ⟨xs, u1, u2⟩ := h.un
  have hub := h.ub
  have hx := u1.len
  have hl := u2.sl.len
  have hun := h.ok.un
  have hsum := sumU_le h.ok.us h.ok.lf.so
  obtain ⟨ua, ul, uc, rfl⟩ := u2.shape
  have hul : ul = A.units.length := by simp only [lenS] at hl; omega
  subst hul
  obtain ⟨K, hK⟩ : ∃ K : Nat, (A.crash keep).2 = K := ⟨_, rfl⟩
  have hKd : K = (max 0 (min keep (sumU A.units : Int))).toNat := hK.symm
  have hKs : K ≤ sumU A.units := by omega
  have ek : (if (if (sumU A.units : Int) < keep then (sumU A.units : Int) else keep) > 0 then (if (sumU A.units : Int) < keep then (sumU A.units : Int) else keep) else 0) = (K : Int) := by
    split <;> split at * <;> omega
  have hcr : (A.crash keep).1 = { A with now := apN A.units K A.lasts, lasts := apN A.units K A.lasts, units := [], fuse := none, gone := false } := by unfold AD.crash; rw [← hKd]
  rw [hcr] at hOk ⊢
  rw [hK]
  refine HC.start comp15 rfl ?_; unfold pc15
  (repeat' (first | (with_reducible refine i_ops ?_; first | (refine g_mv ?_; refine s_mv ?_) | refine o_nil ?_ | (refine g_len ?_; first | refine s_lenB ?_ | refine s_pure ?_) | (refine g_idx ?_; first | (refine s_idxOB ?_; intro p hp hpw) | (refine s_idxB ?_; intro p hp)) | (refine g_pure ?_; first | refine s_nilPf ?_ | refine s_nilPt ?_ | refine s_nilNf ?_ | refine s_nilNt ?_ | refine s_nilck ?_ | refine s_fptr0 ?_ | refine s_seq0 ?_ | refine s_lenSB ?_ | refine s_pure ?_ | refine s_saddB ?_) | (refine g_lfield ?_; refine s_lfield ?_) | (refine g_lload ?_; refine s_lload ?_) | (refine g_lstore ?_; first | refine s_lstoreA ?_ | refine s_lstore ?_) | (refine g_lalloc ?_; refine s_lalloc ?_) | (refine g_hload ?_; first | refine s_hbx ?_ | refine s_d0 ?_ | refine s_d1 ?_ | refine s_d2 ?_ | refine s_d3 ?_ | refine s_d4 ?_ | refine s_d5 ?_ | refine s_d6 ?_ | refine s_hloadP ?_) | (refine g_hstore ?_; (refine s_hstoreB ?_; intro G' hle ho hkp)) | refine o_callp qrf (by first | exact c1 | exact c2) ?_ | (refine o_callg qrf (by first | exact c1 | exact c2) ?_; intro G' hle)) | (with_reducible refine i_vc ?_; first | refine v_seq ?_ | refine v_ops ?_ | (refine g_cond ?_; first | refine s_cond_t ?_ | refine s_cond_f ?_) | refine v_block ?_ | refine v_skip ?_ | refine v_exit ?_ | refine v_ret ?_ | refine s_drawl ?_ | refine v_draw0 ?_) | (with_reducible refine i_plan ?_; first | refine p_done ?_ | refine s_pre ?_ | refine s_preN ?_ | refine s_ag_t ?_ | refine s_ag_f ?_ | refine p_callp qrf (by first | exact c1 | exact c2) qle ?_ p_no | (refine p_callg qrf (by first | exact c1 | exact c2) qle ?_ p_no; intro G' hle) | refine s_alt ?_ | refine p_alt ?_ ?_) | (with_reducible first | refine n_then ?_ | refine r_then ?_ | refine e_then ?_ | refine n_block ?_ | refine r_block ?_ | refine e_block_eq qrf ?_ | refine e_block_ne qrf ?_ | (refine g_stand ?_; first | refine s_stand ?_ | refine s_standL ?_)) | ((with_reducible first | refine s_cond_c ?_ ?_) <;> intro hb <;> rw [hb] <;> (try simp only [decide_eq_true_eq, decide_eq_false_iff_not, beq_iff_eq, bne_iff_ne, beq_eq_false_iff_ne, bne_eq_false_iff_eq, ne_eq, Int.not_lt, Int.not_le, gt_iff_lt, ge_iff_le, Bool.not_eq_true', Bool.not_eq_false'] at hb)) | ((with_reducible first | refine s_ret ?_ | refine s_normal ?_); try simp only [x_tup0, x_tup1, x_tup2, x_tup3, x_tup4, x_tup5, and_true, true_and])))
  simp only [ek]
  refine o_hst (q := 5) (cs' := dc true A.room (.map (some mb)) (.map (some lb)) (.slice ua A.units.length uc) (-1) A.gone) qrf qrf q1 rfl rfl (by show 5 < 7; decide) rfl ?_
  intro G1 g1 k1
  (repeat' (first | (with_reducible refine i_ops ?_; first | (refine g_mv ?_; refine s_mv ?_) | refine o_nil ?_ | (refine g_len ?_; first | refine s_lenB ?_ | refine s_pure ?_) | (refine g_idx ?_; first | (refine s_idxOB ?_; intro p hp hpw) | (refine s_idxB ?_; intro p hp)) | (refine g_pure ?_; first | refine s_nilPf ?_ | refine s_nilPt ?_ | refine s_nilNf ?_ | refine s_nilNt ?_ | refine s_nilck ?_ | refine s_fptr0 ?_ | refine s_seq0 ?_ | refine s_lenSB ?_ | refine s_pure ?_ | refine s_saddB ?_) | (refine g_lfield ?_; refine s_lfield ?_) | (refine g_lload ?_; refine s_lload ?_) | (refine g_lstore ?_; first | refine s_lstoreA ?_ | refine s_lstore ?_) | (refine g_lalloc ?_; refine s_lalloc ?_) | (refine g_hload ?_; first | refine s_hbx ?_ | refine s_d0 ?_ | refine s_d1 ?_ | refine s_d2 ?_ | refine s_d3 ?_ | refine s_d4 ?_ | refine s_d5 ?_ | refine s_d6 ?_ | refine s_hloadP ?_) | (refine g_hstore ?_; (refine s_hstoreB ?_; intro G' hle ho hkp))) | (with_reducible refine i_vc ?_; first | refine v_seq ?_ | refine v_ops ?_ | (refine g_cond ?_; first | refine s_cond_t ?_ | refine s_cond_f ?_) | refine v_block ?_ | refine v_skip ?_ | refine v_exit ?_ | refine v_ret ?_ | refine s_drawl ?_ | refine v_draw0 ?_) | (with_reducible refine i_plan ?_; first | refine p_done ?_ | refine s_pre ?_ | refine s_preN ?_ | refine s_ag_t ?_ | refine s_ag_f ?_ | refine s_alt ?_ | refine p_alt ?_ ?_) | (with_reducible first | refine n_then ?_ | refine r_then ?_ | refine e_then ?_ | refine n_block ?_ | refine r_block ?_ | refine e_block_eq qrf ?_ | refine e_block_ne qrf ?_ | (refine g_stand ?_; first | refine s_stand ?_ | refine s_standL ?_)) | ((with_reducible first | refine s_cond_c ?_ ?_) <;> intro hb <;> rw [hb] <;> (try simp only [decide_eq_true_eq, decide_eq_false_iff_not, beq_iff_eq, bne_iff_ne, beq_eq_false_iff_ne, bne_eq_false_iff_eq, ne_eq, Int.not_lt, Int.not_le, gt_iff_lt, ge_iff_le, Bool.not_eq_true', Bool.not_eq_false'] at hb)) | ((with_reducible first | refine s_ret ?_ | refine s_normal ?_); try simp only [x_tup0, x_tup1, x_tup2, x_tup3, x_tup4, x_tup5, and_true, true_and])))
  refine o_hst (q := 6) (cs' := dc true A.room (.map (some mb)) (.map (some lb)) (.slice ua A.units.length uc) (-1) false) qrf qrf g1 rfl rfl (by show 6 < 7; decide) rfl ?_
  intro G2 g2 k2
  have nlb : lb ≠ b := fun e => by subst e; rw [h.ib] at r1; cases r1
  have hlo : G2 lb = some lo := by rw [k2 _ nlb, k1 _ nlb]; exact h.le _ _ r1
  (repeat' (first | (with_reducible refine i_ops ?_; first | (refine g_mv ?_; refine s_mv ?_) | refine o_nil ?_ | (refine g_len ?_; first | refine s_lenB ?_ | refine s_pure ?_) | (refine g_idx ?_; first | (refine s_idxOB ?_; intro p hp hpw) | (refine s_idxB ?_; intro p hp)) | (refine g_pure ?_; first | refine s_nilPf ?_ | refine s_nilPt ?_ | refine s_nilNf ?_ | refine s_nilNt ?_ | refine s_nilck ?_ | refine s_fptr0 ?_ | refine s_seq0 ?_ | refine s_lenSB ?_ | refine s_pure ?_ | refine s_saddB ?_) | (refine g_lfield ?_; refine s_lfield ?_) | (refine g_lload ?_; refine s_lload ?_) | (refine g_lstore ?_; first | refine s_lstoreA ?_ | refine s_lstore ?_) | (refine g_lalloc ?_; refine s_lalloc ?_) | (refine g_hload ?_; first | refine s_hbx ?_ | refine s_d0 ?_ | refine s_d1 ?_ | refine s_d2 ?_ | refine s_d3 ?_ | refine s_d4 ?_ | refine s_d5 ?_ | refine s_d6 ?_ | refine s_hloadP ?_) | (refine g_hstore ?_; (refine s_hstoreB ?_; intro G' hle ho hkp))) | (with_reducible refine i_vc ?_; first | refine v_seq ?_ | refine v_ops ?_ | (refine g_cond ?_; first | refine s_cond_t ?_ | refine s_cond_f ?_) | refine v_block ?_ | refine v_skip ?_ | refine v_exit ?_ | refine v_ret ?_ | refine s_drawl ?_ | refine v_draw0 ?_) | (with_reducible refine i_plan ?_; first | refine p_done ?_ | refine s_pre ?_ | refine s_preN ?_ | refine s_ag_t ?_ | refine s_ag_f ?_ | refine s_alt ?_ | refine p_alt ?_ ?_) | (with_reducible first | refine n_then ?_ | refine r_then ?_ | refine e_then ?_ | refine n_block ?_ | refine r_block ?_ | refine e_block_eq qrf ?_ | refine e_block_ne qrf ?_ | (refine g_stand ?_; first | refine s_stand ?_ | refine s_standL ?_)) | ((with_reducible first | refine s_cond_c ?_ ?_) <;> intro hb <;> rw [hb] <;> (try simp only [decide_eq_true_eq, decide_eq_false_iff_not, beq_iff_eq, bne_iff_ne, beq_eq_false_iff_ne, bne_eq_false_iff_eq, ne_eq, Int.not_lt, Int.not_le, gt_iff_lt, ge_iff_le, Bool.not_eq_true', Bool.not_eq_false'] at hb)) | ((with_reducible first | refine s_ret ?_ | refine s_normal ?_); try simp only [x_tup0, x_tup1, x_tup2, x_tup3, x_tup4, x_tup5, and_true, true_and])))
  refine o_callc qrf (cloneO lb lo lm G2 hlo r2) ?_
  rintro _ G3 ⟨bm, hbm, rfl, rfl⟩
  have l3 : G2.le (G2.put bm lo) := GH.le_put _ hbm
  have hm3 : (G2.put bm lo) bm = some lo := GH.put_same _ _ _
  generalize G2.put bm lo = G3 at l3 hm3 ⊢
  have g3 := l3 _ _ g2
  have nbm : b ≠ bm := fun e => by subst e; rw [g2] at hbm; cases hbm
  have gbm : G bm = none := by rw [← k1 _ nbm.symm, ← k2 _ nbm.symm]; exact hbm
  have ibm : I bm = none := le_none h.le gbm
  (repeat' (first | (with_reducible refine i_ops ?_; first | (refine g_mv ?_; refine s_mv ?_) | refine o_nil ?_ | (refine g_len ?_; first | refine s_lenB ?_ | refine s_pure ?_) | (refine g_idx ?_; first | (refine s_idxOB ?_; intro p hp hpw) | (refine s_idxB ?_; intro p hp)) | (refine g_pure ?_; first | refine s_nilPf ?_ | refine s_nilPt ?_ | refine s_nilNf ?_ | refine s_nilNt ?_ | refine s_nilck ?_ | refine s_fptr0 ?_ | refine s_seq0 ?_ | refine s_lenSB ?_ | refine s_pure ?_ | refine s_saddB ?_) | (refine g_lfield ?_; refine s_lfield ?_) | (refine g_lload ?_; refine s_lload ?_) | (refine g_lstore ?_; first | refine s_lstoreA ?_ | refine s_lstore ?_) | (refine g_lalloc ?_; refine s_lalloc ?_) | (refine g_hload ?_; first | refine s_hbx ?_ | refine s_d0 ?_ | refine s_d1 ?_ | refine s_d2 ?_ | refine s_d3 ?_ | refine s_d4 ?_ | refine s_d5 ?_ | refine s_d6 ?_ | refine s_hloadP ?_) | (refine g_hstore ?_; (refine s_hstoreB ?_; intro G' hle ho hkp))) | (with_reducible refine i_vc ?_; first | refine v_seq ?_ | refine v_ops ?_ | (refine g_cond ?_; first | refine s_cond_t ?_ | refine s_cond_f ?_) | refine v_block ?_ | refine v_skip ?_ | refine v_exit ?_ | refine v_ret ?_ | refine s_drawl ?_ | refine v_draw0 ?_) | (with_reducible refine i_plan ?_; first | refine p_done ?_ | refine s_pre ?_ | refine s_preN ?_ | refine s_ag_t ?_ | refine s_ag_f ?_ | refine s_alt ?_ | refine p_alt ?_ ?_) | (with_reducible first | refine n_then ?_ | refine r_then ?_ | refine e_then ?_ | refine n_block ?_ | refine r_block ?_ | refine e_block_eq qrf ?_ | refine e_block_ne qrf ?_ | (refine g_stand ?_; first | refine s_stand ?_ | refine s_standL ?_)) | ((with_reducible first | refine s_cond_c ?_ ?_) <;> intro hb <;> rw [hb] <;> (try simp only [decide_eq_true_eq, decide_eq_false_iff_not, beq_iff_eq, bne_iff_ne, beq_eq_false_iff_ne, bne_eq_false_iff_eq, ne_eq, Int.not_lt, Int.not_le, gt_iff_lt, ge_iff_le, Bool.not_eq_true', Bool.not_eq_false'] at hb)) | ((with_reducible first | refine s_ret ?_ | refine s_normal ?_); try simp only [x_tup0, x_tup1, x_tup2, x_tup3, x_tup4, x_tup5, and_true, true_and])))
  refine o_hst (q := 2) (cs' := dc true A.room (.map (some bm)) (.map (some lb)) (.slice ua A.units.length uc) (-1) false) qrf qrf g3 rfl rfl (by show 2 < 7; decide) rfl ?_
  intro G4 g4 k4
  have kk : ∀ c o, c ≠ b → G c = some o → G4 c = some o := fun c o hc ho => by rw [k4 c hc]; exact l3 _ _ (by rw [k2 c hc, k1 c hc]; exact ho)
  have g4' : G4 b = some (.cells (dc true A.room (.map (some bm)) (.map (some lb)) (.slice ua A.units.length uc) (-1) false) t (0, 0)) := g4
  have cr0 : CrS N I G4 b bm lb t (.slice ua A.units.length uc) A xs 0 K A.lasts (apN A.units K A.lasts) := by
    refine ⟨fun c o ho => kk c o (fun e => by subst e; rw [h.ib] at ho; cases ho) (h.le _ _ ho), h.ib, ibm, nbm, ?_, g4', ⟨lo, lm, by rw [k4 _ nbm.symm]; exact hm3, r2, r3⟩, u1, u2.keep fun c hc o ho => kk c o (fun e => hub (e ▸ hc)) ho, h.ok.lf, .inr h.ok.us, rfl⟩
    intro e
    obtain ⟨_, o, e2⟩ := u2.none_ e
    rw [gbm] at e2; cases e2
  (repeat' (first | (with_reducible refine i_ops ?_; first | (refine g_mv ?_; refine s_mv ?_) | refine o_nil ?_ | (refine g_len ?_; first | refine s_lenB ?_ | refine s_pure ?_) | (refine g_idx ?_; first | (refine s_idxOB ?_; intro p hp hpw) | (refine s_idxB ?_; intro p hp)) | (refine g_pure ?_; first | refine s_nilPf ?_ | refine s_nilPt ?_ | refine s_nilNf ?_ | refine s_nilNt ?_ | refine s_nilck ?_ | refine s_fptr0 ?_ | refine s_seq0 ?_ | refine s_lenSB ?_ | refine s_pure ?_ | refine s_saddB ?_) | (refine g_lfield ?_; refine s_lfield ?_) | (refine g_lload ?_; refine s_lload ?_) | (refine g_lstore ?_; first | refine s_lstoreA ?_ | refine s_lstore ?_) | (refine g_lalloc ?_; refine s_lalloc ?_) | (refine g_hload ?_; first | refine s_hbx ?_ | refine s_d0 ?_ | refine s_d1 ?_ | refine s_d2 ?_ | refine s_d3 ?_ | refine s_d4 ?_ | refine s_d5 ?_ | refine s_d6 ?_ | refine s_hloadP ?_) | (refine g_hstore ?_; (refine s_hstoreB ?_; intro G' hle ho hkp))) | (with_reducible refine i_vc ?_; first | refine v_seq ?_ | refine v_ops ?_ | (refine g_cond ?_; first | refine s_cond_t ?_ | refine s_cond_f ?_) | refine v_block ?_ | refine v_skip ?_ | refine v_exit ?_ | refine v_ret ?_ | refine s_drawl ?_ | refine v_draw0 ?_) | (with_reducible refine i_plan ?_; first | refine p_done ?_ | refine s_pre ?_ | refine s_preN ?_ | refine s_ag_t ?_ | refine s_ag_f ?_ | refine s_alt ?_ | refine p_alt ?_ ?_) | (with_reducible first | refine n_then ?_ | refine r_then ?_ | refine e_then ?_ | refine n_block ?_ | refine r_block ?_ | refine e_block_eq qrf ?_ | refine e_block_ne qrf ?_ | (refine g_stand ?_; first | refine s_stand ?_ | refine s_standL ?_)) | ((with_reducible first | refine s_cond_c ?_ ?_) <;> intro hb <;> rw [hb] <;> (try simp only [decide_eq_true_eq, decide_eq_false_iff_not, beq_iff_eq, bne_iff_ne, beq_eq_false_iff_ne, bne_eq_false_iff_eq, ne_eq, Int.not_lt, Int.not_le, gt_iff_lt, ge_iff_le, Bool.not_eq_true', Bool.not_eq_false'] at hb)) | ((with_reducible first | refine s_ret ?_ | refine s_normal ?_); try simp only [x_tup0, x_tup1, x_tup2, x_tup3, x_tup4, x_tup5, and_true, true_and])))
  refine v_loopX (α := Nat × Nat × Fis × GH × GH) (fun q => q.1 ≤ A.units.length ∧ q.2.1 ≤ K ∧ I.le q.2.2.2.1 ∧ CrS N q.2.2.2.1 q.2.2.2.2 b bm lb t (.slice ua A.units.length uc) A xs q.1 q.2.1 q.2.2.1 (apN A.units K A.lasts)) (fun q => [(0, pt b), (5, .int .i64 q.2.1), (6, .int .i64 K), (35, .slice ua A.units.length uc), (36, .int .i64 A.units.length), (37, .int .i64 q.1)]) (fun _ => []) (fun q => q.2.2.2.2) (fun q => A.units.length - q.1) (0, K, A.lasts, I, G4)
    ⟨Nat.zero_le _, Nat.le_refl _, GH.le_refl _, cr0⟩ qhs trivial rfl ?_
  rintro ⟨i, left, F, I1, H⟩ sl ll ⟨j1, j2, j3, cr⟩
  dsimp only at j1 j2 j3 cr
  dsimp only [SL.sets, AL.sets]
  have hH := cr.cell
  (repeat' (first | (with_reducible refine i_ops ?_; first | (refine g_mv ?_; refine s_mv ?_) | refine o_nil ?_ | (refine g_len ?_; first | refine s_lenB ?_ | refine s_pure ?_) | (refine g_idx ?_; first | (refine s_idxOB ?_; intro p hp hpw) | (refine s_idxB ?_; intro p hp)) | (refine g_pure ?_; first | refine s_nilPf ?_ | refine s_nilPt ?_ | refine s_nilNf ?_ | refine s_nilNt ?_ | refine s_nilck ?_ | refine s_fptr0 ?_ | refine s_seq0 ?_ | refine s_lenSB ?_ | refine s_pure ?_ | refine s_saddB ?_) | (refine g_lfield ?_; refine s_lfield ?_) | (refine g_lload ?_; refine s_lload ?_) | (refine g_lstore ?_; first | refine s_lstoreA ?_ | refine s_lstore ?_) | (refine g_lalloc ?_; refine s_lalloc ?_) | (refine g_hload ?_; first | refine s_hbx ?_ | refine s_d0 ?_ | refine s_d1 ?_ | refine s_d2 ?_ | refine s_d3 ?_ | refine s_d4 ?_ | refine s_d5 ?_ | refine s_d6 ?_ | refine s_hloadP ?_) | (refine g_hstore ?_; (refine s_hstoreB ?_; intro G' hle ho hkp))) | (with_reducible refine i_vc ?_; first | refine v_seq ?_ | refine v_ops ?_ | (refine g_cond ?_; first | refine s_cond_t ?_ | refine s_cond_f ?_) | refine v_block ?_ | refine v_skip ?_ | refine v_exit ?_ | refine v_ret ?_ | refine s_drawl ?_ | refine v_draw0 ?_) | (with_reducible refine i_plan ?_; first | refine p_done ?_ | refine s_pre ?_ | refine s_preN ?_ | refine s_ag_t ?_ | refine s_ag_f ?_ | refine s_alt ?_ | refine p_alt ?_ ?_) | (with_reducible first | refine n_then ?_ | refine r_then ?_ | refine e_then ?_ | refine n_block ?_ | refine r_block ?_ | refine e_block_eq qrf ?_ | refine e_block_ne qrf ?_ | (refine g_stand ?_; first | refine s_stand ?_ | refine s_standL ?_)) | ((with_reducible first | refine s_cond_c ?_ ?_) <;> intro hb <;> rw [hb] <;> (try simp only [decide_eq_true_eq, decide_eq_false_iff_not, beq_iff_eq, bne_iff_ne, beq_eq_false_iff_ne, bne_eq_false_iff_eq, ne_eq, Int.not_lt, Int.not_le, gt_iff_lt, ge_iff_le, Bool.not_eq_true', Bool.not_eq_false'] at hb)) | ((with_reducible first | refine s_ret ?_ | refine s_normal ?_); try simp only [x_tup0, x_tup1, x_tup2, x_tup3, x_tup4, x_tup5, and_true, true_and])))
  · have hi : i < A.units.length := by omega
    obtain ⟨x1, fv, x2, x3⟩ := cr.un.get hi
    obtain ⟨f0, caps0, rfl⟩ := x3.fn
    obtain ⟨bq, q, y1, y2, _, _⟩ := elem_at cr.own.sl hi (two_at x1 x2)
    refine o_pure (vs := [.slice ua A.units.length uc, .int .i64 i]) qrf y1 ?_
    have ek2 : (if (A.units[i].many : Int) < (left : Int) then (A.units[i].many : Int) else (left : Int)) = ((min left A.units[i].many : Nat) : Int) := by split <;> omega
    have hHu : (unp H bm) b = some (.cells (dc true A.room (.map (some bm)) (.map (some lb)) (.slice ua A.units.length uc) (-1) false) t (0, 0)) := by rw [unp_ne nbm]; exact hH
    have hdr : A.units.drop i = A.units[i] :: A.units.drop (i + 1) := List.drop_eq_getElem_cons hi
    have hgl := cr.goal
    rw [hdr, apN] at hgl
    obtain ⟨k, hkm⟩ : ∃ k, min left A.units[i].many = k := ⟨_, rfl⟩
    have hkl : k ≤ left := by omega
    have hku : k ≤ A.units[i].many := by omega
    rw [hkm] at ek2 hgl
    (repeat' (first | (with_reducible refine i_ops ?_; first | (refine g_mv ?_; refine s_mv ?_) | refine o_nil ?_ | (refine g_len ?_; first | refine s_lenB ?_ | refine s_pure ?_) | (refine g_idx ?_; first | (refine s_idxOB ?_; intro p hp hpw) | (refine s_idxB ?_; intro p hp)) | (refine g_pure ?_; first | refine s_nilPf ?_ | refine s_nilPt ?_ | refine s_nilNf ?_ | refine s_nilNt ?_ | refine s_nilck ?_ | refine s_fptr0 ?_ | refine s_seq0 ?_ | refine s_lenSB ?_ | refine s_pure ?_ | refine s_saddB ?_) | (refine g_lfield ?_; refine s_lfield ?_) | (refine g_lload ?_; refine s_lload ?_) | (refine g_lstore ?_; first | refine s_lstoreA ?_ | refine s_lstore ?_) | (refine g_lalloc ?_; refine s_lalloc ?_) | (refine g_hload ?_; first | refine s_hbx ?_ | refine s_d0 ?_ | refine s_d1 ?_ | refine s_d2 ?_ | refine s_d3 ?_ | refine s_d4 ?_ | refine s_d5 ?_ | refine s_d6 ?_ | refine s_hloadP ?_) | (refine g_hstore ?_; (refine s_hstoreB ?_; intro G' hle ho hkp))) | (with_reducible refine i_vc ?_; first | refine v_seq ?_ | refine v_ops ?_ | (refine g_cond ?_; first | refine s_cond_t ?_ | refine s_cond_f ?_) | refine v_block ?_ | refine v_skip ?_ | refine v_exit ?_ | refine v_ret ?_ | refine v_drawG (unp H bm) qle ?_) | (with_reducible refine i_plan ?_; first | refine p_done ?_ | refine s_preN ?_ | refine p_preG qrf ?_ | refine s_ag_t ?_ | refine s_ag_f ?_ | refine s_alt ?_ | refine p_alt ?_ ?_) | (with_reducible first | refine n_then ?_ | refine r_then ?_ | refine e_then ?_ | refine n_block ?_ | refine r_block ?_ | refine e_block_eq qrf ?_ | refine e_block_ne qrf ?_ | (refine g_stand ?_; first | refine s_stand ?_ | refine s_standL ?_)) | (with_reducible refine k_back ?_) | ((with_reducible first | refine s_cond_c ?_ ?_) <;> intro hb <;> rw [hb] <;> (try simp only [decide_eq_true_eq, decide_eq_false_iff_not, beq_iff_eq, bne_iff_ne, beq_eq_false_iff_ne, bne_eq_false_iff_eq, ne_eq, Int.not_lt, Int.not_le, gt_iff_lt, ge_iff_le, Bool.not_eq_true', Bool.not_eq_false'] at hb)) | ((with_reducible first | refine s_ret ?_ | refine s_normal ?_); try simp only [x_tup0, x_tup1, x_tup2, x_tup3, x_tup4, x_tup5, and_true, true_and])))
    · rw [ek2] at hb
      refine v_drawG (unp H bm) (unp_le _ _) ?_
      refine p_preG qrf ?_
      (repeat' (first | (with_reducible refine i_ops ?_; first | (refine g_mv ?_; refine s_mv ?_) | refine o_nil ?_ | (refine g_len ?_; first | refine s_lenB ?_ | refine s_pure ?_) | (refine g_idx ?_; first | (refine s_idxOB ?_; intro p hp hpw) | (refine s_idxB ?_; intro p hp)) | (refine g_pure ?_; first | refine s_nilPf ?_ | refine s_nilPt ?_ | refine s_nilNf ?_ | refine s_nilNt ?_ | refine s_nilck ?_ | refine s_fptr0 ?_ | refine s_seq0 ?_ | refine s_lenSB ?_ | refine s_pure ?_ | refine s_saddB ?_) | (refine g_lfield ?_; refine s_lfield ?_) | (refine g_lload ?_; refine s_lload ?_) | (refine g_lstore ?_; first | refine s_lstoreA ?_ | refine s_lstore ?_) | (refine g_lalloc ?_; refine s_lalloc ?_) | (refine g_hload ?_; first | refine s_hbx ?_ | refine s_d0 ?_ | refine s_d1 ?_ | refine s_d2 ?_ | refine s_d3 ?_ | refine s_d4 ?_ | refine s_d5 ?_ | refine s_d6 ?_ | refine s_hloadP ?_) | (refine g_hstore ?_; (refine s_hstoreB ?_; intro G' hle ho hkp))) | (with_reducible refine i_vc ?_; first | refine v_seq ?_ | refine v_ops ?_ | (refine g_cond ?_; first | refine s_cond_t ?_ | refine s_cond_f ?_) | refine v_block ?_ | refine v_skip ?_ | refine v_exit ?_ | refine v_ret ?_ | refine s_drawl ?_ | refine v_draw0 ?_) | (with_reducible refine i_plan ?_; first | refine p_done ?_ | refine s_pre ?_ | refine s_preN ?_ | refine s_ag_t ?_ | refine s_ag_f ?_ | refine s_alt ?_ | refine p_alt ?_ ?_) | (with_reducible first | refine n_then ?_ | refine r_then ?_ | refine e_then ?_ | refine n_block ?_ | refine r_block ?_ | refine e_block_eq qrf ?_ | refine e_block_ne qrf ?_ | (refine g_stand ?_; first | refine s_stand ?_ | refine s_standL ?_)) | ((with_reducible first | refine s_cond_c ?_ ?_) <;> intro hb <;> rw [hb] <;> (try simp only [decide_eq_true_eq, decide_eq_false_iff_not, beq_iff_eq, bne_iff_ne, beq_eq_false_iff_ne, bne_eq_false_iff_eq, ne_eq, Int.not_lt, Int.not_le, gt_iff_lt, ge_iff_le, Bool.not_eq_true', Bool.not_eq_false'] at hb)) | ((with_reducible first | refine s_ret ?_ | refine s_normal ?_); try simp only [x_tup0, x_tup1, x_tup2, x_tup3, x_tup4, x_tup5, and_true, true_and])))
      refine k_back ?_
      simp only [ek2]
      obtain ⟨mo1, m1, w1, w2, w3⟩ := cr.now
      have hoks : okUs N (A.units.drop i) F := cr.ok.elim (fun e => by omega) id
      rw [hdr] at hoks
      rw [if_neg (by omega)] at hgl
      obtain ⟨f', caps', e, ec, hc⟩ := unit1 (k := k) x3 cr.le w1 w2 w3 cr.im hoks.1 cr.fine.so hoks.2.1 (by omega) hku
      cases e
      (repeat' (first | (with_reducible refine i_ops ?_; first | (refine g_mv ?_; refine s_mv ?_) | refine o_nil ?_ | (refine g_len ?_; first | refine s_lenB ?_ | refine s_pure ?_) | (refine g_idx ?_; first | (refine s_idxOB ?_; intro p hp hpw) | (refine s_idxB ?_; intro p hp)) | (refine g_pure ?_; first | refine s_nilPf ?_ | refine s_nilPt ?_ | refine s_nilNf ?_ | refine s_nilNt ?_ | refine s_nilck ?_ | refine s_fptr0 ?_ | refine s_seq0 ?_ | refine s_lenSB ?_ | refine s_pure ?_ | refine s_saddB ?_) | (refine g_lfield ?_; refine s_lfield ?_) | (refine g_lload ?_; refine s_lload ?_) | (refine g_lstore ?_; first | refine s_lstoreA ?_ | refine s_lstore ?_) | (refine g_lalloc ?_; refine s_lalloc ?_) | (refine g_hload ?_; first | refine s_hbx ?_ | refine s_d0 ?_ | refine s_d1 ?_ | refine s_d2 ?_ | refine s_d3 ?_ | refine s_d4 ?_ | refine s_d5 ?_ | refine s_d6 ?_ | refine s_hloadP ?_) | (refine g_hstore ?_; (refine s_hstoreB ?_; intro G' hle ho hkp))) | (with_reducible refine i_vc ?_; first | refine v_seq ?_ | refine v_ops ?_ | (refine g_cond ?_; first | refine s_cond_t ?_ | refine s_cond_f ?_) | refine v_block ?_ | refine v_skip ?_ | refine v_exit ?_ | refine v_ret ?_ | refine s_drawl ?_ | refine v_draw0 ?_) | (with_reducible refine i_plan ?_; first | refine p_done ?_ | refine s_pre ?_ | refine s_preN ?_ | refine s_ag_t ?_ | refine s_ag_f ?_ | refine s_alt ?_ | refine p_alt ?_ ?_) | (with_reducible first | refine n_then ?_ | refine r_then ?_ | refine e_then ?_ | refine n_block ?_ | refine r_block ?_ | refine e_block_eq qrf ?_ | refine e_block_ne qrf ?_ | (refine g_stand ?_; first | refine s_stand ?_ | refine s_standL ?_)) | ((with_reducible first | refine s_cond_c ?_ ?_) <;> intro hb <;> rw [hb] <;> (try simp only [decide_eq_true_eq, decide_eq_false_iff_not, beq_iff_eq, bne_iff_ne, beq_eq_false_iff_ne, bne_eq_false_iff_eq, ne_eq, Int.not_lt, Int.not_le, gt_iff_lt, ge_iff_le, Bool.not_eq_true', Bool.not_eq_false'] at hb)) | ((with_reducible first | refine s_ret ?_ | refine s_normal ?_); try simp only [x_tup0, x_tup1, x_tup2, x_tup3, x_tup4, x_tup5, and_true, true_and])))
      refine o_callv qrf qrf ec rfl hc ?_
      rintro v H2 ⟨I2, mo2, m2, i1, i2, i3, i4, i5, i6, i7, i8⟩
      have hup : (unp H bm).le H2 := fun c o ho => by
        by_cases e : c = bm
        · subst e; rw [unp_self] at ho; cases ho
        · rw [unp_ne e] at ho; exact i7 c o e ho
      refine s_stand ?_
      have new_ : ∀ c, I1 c = none → (∃ o, H c = some o) → I2 c = none := fun c e1 ⟨o, e2⟩ => by
        cases hi : I2 c with
        | none => rfl
        | some o' => rcases i8 c (by rw [hi]; simp) with e | e
                     · exact absurd e1 e
                     · rw [e] at e2; cases e2
      have cr2 : CrS N I2 H2 b bm lb t (.slice ua A.units.length uc) A xs (i + 1) (left - k) (A.units[i].ap k F) (apN A.units K A.lasts) := by
        refine ⟨i2, new_ b cr.ib ⟨_, hH⟩, i6, nbm, cr.um, i7 _ _ nbm hH, ⟨mo2, m2, i3, i4, i5⟩, cr.un.le i1, (cr.own.keep fun c hc o ho => i7 c o (fun e => cr.um (e ▸ hc)) ho).rebase fun c hc => ?_, fine_part cr.fine.so hoks.2.1 (by omega) hku, ?_, hgl⟩
        · obtain ⟨e1, e2⟩ := cr.own.none_ hc
          exact new_ c e1 e2
        · by_cases hle : A.units[i].many ≤ left
          · right
            rw [show k = A.units[i].many by omega]
            exact hoks.2.2
          · left; omega
      have b2 : left ≤ 1099511627776 := by omega
      (repeat' (first | (with_reducible refine i_ops ?_; first | (refine g_mv ?_; refine s_mv ?_) | refine o_nil ?_ | (refine g_len ?_; first | refine s_lenB ?_ | refine s_pure ?_) | (refine g_idx ?_; first | (refine s_idxOB ?_; intro p hp hpw) | (refine s_idxB ?_; intro p hp)) | (refine g_pure ?_; first | refine s_nilPf ?_ | refine s_nilPt ?_ | refine s_nilNf ?_ | refine s_nilNt ?_ | refine s_nilck ?_ | refine s_fptr0 ?_ | refine s_seq0 ?_ | refine s_lenSB ?_ | refine s_pure ?_ | refine s_saddB ?_) | (refine g_lfield ?_; refine s_lfield ?_) | (refine g_lload ?_; refine s_lload ?_) | (refine g_lstore ?_; first | refine s_lstoreA ?_ | refine s_lstore ?_) | (refine g_lalloc ?_; refine s_lalloc ?_) | (refine g_hload ?_; first | refine s_hbx ?_ | refine s_d0 ?_ | refine s_d1 ?_ | refine s_d2 ?_ | refine s_d3 ?_ | refine s_d4 ?_ | refine s_d5 ?_ | refine s_d6 ?_ | refine s_hloadP ?_) | (refine g_hstore ?_; (refine s_hstoreB ?_; intro G' hle ho hkp))) | (with_reducible refine i_vc ?_; first | refine v_seq ?_ | refine v_ops ?_ | (refine g_cond ?_; first | refine s_cond_t ?_ | refine s_cond_f ?_) | refine v_block ?_ | refine v_skip ?_ | refine v_exit ?_ | refine v_ret ?_ | refine s_drawl ?_ | refine v_draw0 ?_) | (with_reducible refine i_plan ?_; first | refine p_done ?_ | refine s_pre ?_ | refine s_preN ?_ | refine s_ag_t ?_ | refine s_ag_f ?_ | refine s_alt ?_ | refine p_alt ?_ ?_) | (with_reducible first | refine n_then ?_ | refine r_then ?_ | refine e_then ?_ | refine n_block ?_ | refine r_block ?_ | refine e_block_eq qrf ?_ | refine e_block_ne qrf ?_ | (refine g_stand ?_; first | refine s_stand ?_ | refine s_standL ?_)) | ((with_reducible first | refine s_cond_c ?_ ?_) <;> intro hb <;> rw [hb] <;> (try simp only [decide_eq_true_eq, decide_eq_false_iff_not, beq_iff_eq, bne_iff_ne, beq_eq_false_iff_ne, bne_eq_false_iff_eq, ne_eq, Int.not_lt, Int.not_le, gt_iff_lt, ge_iff_le, Bool.not_eq_true', Bool.not_eq_false'] at hb)) | ((with_reducible first | refine s_ret ?_ | refine s_normal ?_); try simp only [x_tup0, x_tup1, x_tup2, x_tup3, x_tup4, x_tup5, and_true, true_and])))
      refine ⟨A.units.length - (i + 1), by omega, (i + 1, left - k, A.units[i].ap k F, I2, H2), rfl, ⟨hi, by dsimp only; omega, GH.le_trans j3 i1, cr2⟩, ⟨SL.get_fn qrf, ?_, SL.get_fn qrf, SL.get_fn qrf, SL.get_fn qrf, SL.get_fn qrf, trivial⟩, trivial, rfl⟩
      dsimp only
      rw [show ((left - k : Nat) : Int) = (left : Int) - k by omega]
      exact SL.get_fn qrf
    · rw [ek2] at hb
      have hk0 : left = 0 := by
        by_cases hl0 : left = 0
        · exact hl0
        · have hoks : okUs N (A.units.drop i) F := cr.ok.elim (fun e => absurd e hl0) id
          rw [hdr] at hoks
          have := AU.many_pos hoks.1
          omega
      subst hk0
      rw [if_pos rfl] at hgl
      refine ⟨A.units.length - (i + 1), by omega, (i + 1, 0, F, I1, H), rfl, ⟨hi, j2, j3, { cr with ok := .inl rfl, goal := by rw [apN_zero]; exact hgl }⟩, qhs, trivial, rfl⟩
  · have hi : i = A.units.length := by omega
    subst hi
    have hF : F = apN A.units K A.lasts := by have := cr.goal; rw [List.drop_length] at this; exact this
    subst hF
    obtain ⟨mo1, m1, w1, w2, w3⟩ := cr.now
    have c9 := syncW hH w1 w2
    (repeat' (first | (with_reducible refine i_ops ?_; first | (refine g_mv ?_; refine s_mv ?_) | refine o_nil ?_ | (refine g_len ?_; first | refine s_lenB ?_ | refine s_pure ?_) | (refine g_idx ?_; first | (refine s_idxOB ?_; intro p hp hpw) | (refine s_idxB ?_; intro p hp)) | (refine g_pure ?_; first | refine s_nilPf ?_ | refine s_nilPt ?_ | refine s_nilNf ?_ | refine s_nilNt ?_ | refine s_nilck ?_ | refine s_fptr0 ?_ | refine s_seq0 ?_ | refine s_lenSB ?_ | refine s_pure ?_ | refine s_saddB ?_) | (refine g_lfield ?_; refine s_lfield ?_) | (refine g_lload ?_; refine s_lload ?_) | (refine g_lstore ?_; first | refine s_lstoreA ?_ | refine s_lstore ?_) | (refine g_lalloc ?_; refine s_lalloc ?_) | (refine g_hload ?_; first | refine s_hbx ?_ | refine s_d0 ?_ | refine s_d1 ?_ | refine s_d2 ?_ | refine s_d3 ?_ | refine s_d4 ?_ | refine s_d5 ?_ | refine s_d6 ?_ | refine s_hloadP ?_) | (refine g_hstore ?_; (refine s_hstoreB ?_; intro G' hle ho hkp))) | (with_reducible refine i_vc ?_; first | refine v_seq ?_ | refine v_ops ?_ | (refine g_cond ?_; first | refine s_cond_t ?_ | refine s_cond_f ?_) | refine v_block ?_ | refine v_skip ?_ | refine v_exit ?_ | refine v_ret ?_ | refine s_drawl ?_ | refine v_draw0 ?_) | (with_reducible refine i_plan ?_; first | refine p_done ?_ | refine s_pre ?_ | refine s_preN ?_ | refine s_ag_t ?_ | refine s_ag_f ?_ | refine s_alt ?_ | refine p_alt ?_ ?_) | (with_reducible first | refine n_then ?_ | refine r_then ?_ | refine e_then ?_ | refine n_block ?_ | refine r_block ?_ | refine e_block_eq qrf ?_ | refine e_block_ne qrf ?_ | (refine g_stand ?_; first | refine s_stand ?_ | refine s_standL ?_)) | ((with_reducible first | refine s_cond_c ?_ ?_) <;> intro hb <;> rw [hb] <;> (try simp only [decide_eq_true_eq, decide_eq_false_iff_not, beq_iff_eq, bne_iff_ne, beq_eq_false_iff_ne, bne_eq_false_iff_eq, ne_eq, Int.not_lt, Int.not_le, gt_iff_lt, ge_iff_le, Bool.not_eq_true', Bool.not_eq_false'] at hb)) | ((with_reducible first | refine s_ret ?_ | refine s_normal ?_); try simp only [x_tup0, x_tup1, x_tup2, x_tup3, x_tup4, x_tup5, and_true, true_and])))
    refine o_callc qrf c9 ?_
    rintro _ H2 ⟨rfl, lb2, z1, z2, z3, z4⟩
    (repeat' (first | (with_reducible refine i_ops ?_; first | (refine g_mv ?_; refine s_mv ?_) | refine o_nil ?_ | (refine g_len ?_; first | refine s_lenB ?_ | refine s_pure ?_) | (refine g_idx ?_; first | (refine s_idxOB ?_; intro p hp hpw) | (refine s_idxB ?_; intro p hp)) | (refine g_pure ?_; first | refine s_nilPf ?_ | refine s_nilPt ?_ | refine s_nilNf ?_ | refine s_nilNt ?_ | refine s_nilck ?_ | refine s_fptr0 ?_ | refine s_seq0 ?_ | refine s_lenSB ?_ | refine s_pure ?_ | refine s_saddB ?_) | (refine g_lfield ?_; refine s_lfield ?_) | (refine g_lload ?_; refine s_lload ?_) | (refine g_lstore ?_; first | refine s_lstoreA ?_ | refine s_lstore ?_) | (refine g_lalloc ?_; refine s_lalloc ?_) | (refine g_hload ?_; first | refine s_hbx ?_ | refine s_d0 ?_ | refine s_d1 ?_ | refine s_d2 ?_ | refine s_d3 ?_ | refine s_d4 ?_ | refine s_d5 ?_ | refine s_d6 ?_ | refine s_hloadP ?_) | (refine g_hstore ?_; (refine s_hstoreB ?_; intro G' hle ho hkp))) | (with_reducible refine i_vc ?_; first | refine v_seq ?_ | refine v_ops ?_ | (refine g_cond ?_; first | refine s_cond_t ?_ | refine s_cond_f ?_) | refine v_block ?_ | refine v_skip ?_ | refine v_exit ?_ | refine v_ret ?_ | refine s_drawl ?_ | refine v_draw0 ?_) | (with_reducible refine i_plan ?_; first | refine p_done ?_ | refine s_pre ?_ | refine s_preN ?_ | refine s_ag_t ?_ | refine s_ag_f ?_ | refine s_alt ?_ | refine p_alt ?_ ?_) | (with_reducible first | refine n_then ?_ | refine r_then ?_ | refine e_then ?_ | refine n_block ?_ | refine r_block ?_ | refine e_block_eq qrf ?_ | refine e_block_ne qrf ?_ | (refine g_stand ?_; first | refine s_stand ?_ | refine s_standL ?_)) | ((with_reducible first | refine s_cond_c ?_ ?_) <;> intro hb <;> rw [hb] <;> (try simp only [decide_eq_true_eq, decide_eq_false_iff_not, beq_iff_eq, bne_iff_ne, beq_eq_false_iff_ne, bne_eq_false_iff_eq, ne_eq, Int.not_lt, Int.not_le, gt_iff_lt, ge_iff_le, Bool.not_eq_true', Bool.not_eq_false'] at hb)) | ((with_reducible first | refine s_ret ?_ | refine s_normal ?_); try simp only [x_tup0, x_tup1, x_tup2, x_tup3, x_tup4, x_tup5, and_true, true_and])))
    have nl : lb2 ≠ b := fun e => by subst e; rw [hH] at z1; cases z1
    have hle2 : I1.le H2 := fun c o ho => z4 c o (fun e => by subst e; rw [cr.ib] at ho; cases ho) (cr.le _ _ ho)
    refine ⟨addF I1 H H2, bm, GH.le_trans j3 (addF_le _ _ _), gbm, addF_le2 hle2, addF_none cr.ib hH, addF_none cr.im w1, nbm, (fun e => by cases e), (fun e => by cases e), ⟨lb2, t, z3, mo1, m1, ?_, w2, w3.le (addF_le _ _ _)⟩, ⟨mo1, m1, z4 _ _ nbm.symm w1, w2, w3.le (addF_le _ _ _)⟩, ⟨[], rfl, .inl ⟨rfl, rfl⟩⟩, hOk, fun f e => by cases e⟩
    rw [addF_new (le_none cr.le z1) z1]
    exact z2
end
end Go.Proofs.Ytbmhdmkmnhaffaa.V
end
section
/- Copy. -/
set_option linter.unusedVariables false
set_option linter.unusedSimpArgs false
-- @pre g_hload s_hbx s_d0 s_d1 s_d2 s_d3 s_d4 s_d5 s_d6
-- @extra s_nilPf s_nilPt s_nilNf s_nilNt s_nilck s_fptr0 s_seq0 s_lenSB
namespace Go.Proofs.Ytbmhdmkmnhaffaa.V
open Go.RowKit Go.ChangeShapes Go.WideShapes
theorem UnF.cells {I : GH} : ∀ {us : List AU} {xs : List Value}, UnF I us xs → cells1 xs = true
  | [], _, h => by rw [h]; rfl
  | u :: us, _, ⟨fv, r, h1, h2, h3⟩ => by
    obtain ⟨f, caps, rfl⟩ := h2.fn
    rw [h1]
    have := h3.cells
    unfold cells1 at this ⊢
    rw [List.all_cons, List.all_cons, this]
    rfl
theorem ne_of {G G' : GH} {a b : Nat} {o : Obj} (hl : G.le G') (h1 : G a = some o) (h2 : G' b = none) : a ≠ b := fun e => by
  subst e; rw [hl _ _ h1] at h2; cases h2
theorem cloneK {G G1 : GH} {b : Nat} {o : Obj} {m : AM} (hl : G.le G1) (hb : G b = some o) (hm : MapO o m) : HC Try.prog 34 #[.map (some b)] G1 fun v G' => ∃ b', v = .map (some b') ∧ G1.le G' ∧ G1 b' = none ∧ G' b' = some o := by
  refine (cloneO b o m G1 (hl _ _ hb) hm).mono ?_
  rintro v G' ⟨b', h1, rfl, rfl⟩
  exact ⟨b', rfl, GH.le_put _ h1, h1, GH.put_same _ _ _⟩
/-- What Copy leaves. -/
def Cop (N : Nat) (I G : GH) (A : AD) (v : Value) (G' : GH) : Prop := G.le G' ∧ ∃ b' mb' us' I', v = pt b' ∧ G b' = none ∧ G mb' = none ∧ (∀ c, blkS us' = some c → G c = none) ∧ I.le I' ∧ (∀ c, I' c ≠ none → I c ≠ none ∨ G c = none) ∧ PD N I' G' b' mb' us' A
section
variable {N : Nat} {I G : GH} {b mb : Nat} {us : Value} {A : AD}
theorem cop_of (h : PD N I G b mb us A) {G1 G2 G' Gu : GH} {b' mb' lb' : Nat} {t : TypeId} {us' : Value} {xs : List Value} {mo lo : Obj} {m lm : AM} (l1 : G.le G1) (hb' : G b' = none) (l2 : G1.le G2) (n1 : G1 mb' = none) (n2 : G1 lb' = none) (g1 : G1 b' ≠ none) (o1 : G2 mb' = some mo) (o2 : G2 lb' = some lo) (nml : mb' ≠ lb') (hm : MapO mo m) (hr : MR I m A.now) (hm2 : MapO lo lm) (hr2 : MR I lm A.lasts)
    (lu : G1.le Gu) (hx : UnF I A.units xs) (hu : Own 2 Gu G2 us' xs) (k : ∀ c, c ≠ b' → G' c = G2 c) (hc : G' b' = some (.cells (dc true A.room (.map (some mb')) (.map (some lb')) us' (fuV A.fuse) A.gone) t (0, 0))) : Cop N I G A (pt b') G' := by
  have nb1 : b' ≠ mb' := fun e => by subst e; exact g1 n1
  have nb2 : b' ≠ lb' := fun e => by subst e; exact g1 n2
  have gm : G mb' = none := le_none l1 n1
  have gl : G lb' = none := le_none l1 n2
  have ub : ∀ c, blkS us' = some c → G1 c = none := fun c e => le_none lu (hu.none_ e).1
  have ul : ∀ c, blkS us' = some c → c ≠ lb' := fun c e e2 => by
    subst e2
    rcases hu with ⟨rfl, _⟩ | ⟨c', sp, _, hh⟩
    · cases e
    · have e3 : c' = c := by have := hh.blk; rw [e] at this; exact (Option.some.inj this).symm
      subst e3
      obtain ⟨q, len, cap, cs, e', fr, _, hG, _⟩ := hh
      rw [o2] at hG
      obtain ⟨es, cl, e5, _⟩ := hm2
      rw [e5] at hG; cases hG
  have um : ∀ c, blkS us' = some c → c ≠ mb' := fun c e e2 => by
    subst e2
    rcases hu with ⟨rfl, _⟩ | ⟨c', sp, _, hh⟩
    · cases e
    · have e3 : c' = c := by have := hh.blk; rw [e] at this; exact (Option.some.inj this).symm
      subst e3
      obtain ⟨q, len, cap, cs, e', fr, _, hG, _⟩ := hh
      rw [o1] at hG
      obtain ⟨es, cl, e5, _⟩ := hm
      rw [e5] at hG; cases hG
  have l12 := GH.le_trans l1 l2
  have Ilb : I lb' = none := le_none h.le gl
  have Ib : I b' = none := le_none h.le hb'
  have Im : I mb' = none := le_none h.le gm
  have hI' : I.le (I.put lb' lo) := GH.le_put _ Ilb
  refine ⟨le_but l12 hb' k, b', mb', us', I.put lb' lo, rfl, hb', gm, fun c e => le_none l1 (ub c e), hI', fun c hc' => ?_, ?_, ?_, ?_, nb1, ?_, ?_, ⟨lb', t, hc, lo, lm, GH.put_same _ _ _, hm2, hr2.le hI'⟩, ⟨mo, m, by rw [k _ nb1.symm]; exact o1, hm, hr.le hI'⟩, ⟨xs, hx.le hI', ?_⟩, h.ok, h.fz⟩
  · by_cases e : c = lb'
    · right; rw [e]; exact gl
    · left; rw [GH.put_ne _ _ e] at hc'; exact hc'
  · intro c o ho
    by_cases e : c = lb'
    · subst e
      rw [GH.put_same] at ho
      rw [k _ nb2.symm, o2, ho]
    · rw [GH.put_ne _ _ e] at ho
      rw [k c (fun e2 => by subst e2; rw [Ib] at ho; cases ho)]
      exact l12 _ _ (h.le _ _ ho)
  · rw [GH.put_ne _ _ nb2]; exact Ib
  · rw [GH.put_ne _ _ nml]; exact Im
  · intro e; exact g1 (ub _ e)
  · intro e; exact um _ e rfl
  · refine (hu.keep fun c e o ho => by rw [k c (fun e2 => by subst e2; exact g1 (ub _ e))]; exact ho).rebase fun c e => ?_
    rw [GH.put_ne _ _ (ul c e)]
    exact le_none h.le (le_none l1 (ub c e))
theorem copyP (h : PD N I G b mb us A) (hN : N ≤ 1000000) : HC Try.prog 12 #[pt b] G fun v G' => Cop N I G A v G' := by
  have c1 := nobodyP h
  obtain ⟨lb, t, q1, lo, lm, r1, r2, r3⟩ := h.cell
  obtain ⟨mo, m, w1, w2, w3⟩ := h.now
  obtain ⟨xs, u1, u2⟩ := h.un
  have hx := u1.len
  have hun := h.ok.un
  have r1' := h.le _ _ r1
  refine HC.start comp12 rfl ?_; unfold pc12
  (repeat' (first | (with_reducible refine i_ops ?_; first | (refine g_mv ?_; refine s_mv ?_) | refine o_nil ?_ | (refine g_pure ?_; first | refine s_nilPf ?_ | refine s_nilPt ?_ | refine s_nilNf ?_ | refine s_nilNt ?_ | refine s_nilck ?_ | refine s_fptr0 ?_ | refine s_seq0 ?_ | refine s_lenSB ?_ | refine s_pure ?_ | refine s_saddB ?_) | (refine g_hload ?_; first | refine s_hbx ?_ | refine s_d0 ?_ | refine s_d1 ?_ | refine s_d2 ?_ | refine s_d3 ?_ | refine s_d4 ?_ | refine s_d5 ?_ | refine s_d6 ?_ | refine s_hloadP ?_) | (refine g_hstore ?_; (refine s_hstoreB ?_; intro G' hle ho hkp)) | refine o_callp qrf (by first | exact c1) ?_ | (refine o_callg qrf (by first | exact c1) ?_; intro G' hle)) | (with_reducible refine i_vc ?_; first | refine v_seq ?_ | refine v_ops ?_ | (refine g_cond ?_; first | refine s_cond_t ?_ | refine s_cond_f ?_) | refine v_skip ?_ | refine v_ret ?_ | refine s_drawl ?_ | refine v_draw0 ?_) | (with_reducible refine i_plan ?_; first | refine p_done ?_ | refine s_pre ?_ | refine s_preN ?_ | refine s_ag_t ?_ | refine s_ag_f ?_ | refine p_callp qrf (by first | exact c1) qle ?_ p_no | (refine p_callg qrf (by first | exact c1) qle ?_ p_no; intro G' hle) | refine s_alt ?_ | refine p_alt ?_ ?_) | (with_reducible first | refine n_then ?_ | refine r_then ?_ | refine e_then ?_ | (refine g_stand ?_; first | refine s_stand ?_ | refine s_standL ?_)) | ((with_reducible first | refine s_cond_c ?_ ?_) <;> intro hb <;> rw [hb] <;> (try simp only [decide_eq_true_eq, decide_eq_false_iff_not, beq_iff_eq, bne_iff_ne, beq_eq_false_iff_ne, bne_eq_false_iff_eq, ne_eq, Int.not_lt, Int.not_le, gt_iff_lt, ge_iff_le, Bool.not_eq_true', Bool.not_eq_false'] at hb)) | ((with_reducible first | refine s_ret ?_ | refine s_normal ?_); try simp only [x_tup0, x_tup1, x_tup2, x_tup3, x_tup4, x_tup5, and_true, true_and])))
  refine o_hloadP (v := .agg (dc true A.room (.map (some mb)) (.map (some lb)) us (fuV A.fuse) A.gone)) qrf ⟨b, 0, _, t, (0, 0), rfl, q1, rfl⟩ ?_
  (repeat' (first | (with_reducible refine i_ops ?_; first | (refine g_mv ?_; refine s_mv ?_) | refine o_nil ?_ | (refine g_pure ?_; first | refine s_nilPf ?_ | refine s_nilPt ?_ | refine s_nilNf ?_ | refine s_nilNt ?_ | refine s_nilck ?_ | refine s_fptr0 ?_ | refine s_seq0 ?_ | refine s_lenSB ?_ | refine s_pure ?_ | refine s_saddB ?_) | (refine g_hload ?_; first | refine s_hbx ?_ | refine s_d0 ?_ | refine s_d1 ?_ | refine s_d2 ?_ | refine s_d3 ?_ | refine s_d4 ?_ | refine s_d5 ?_ | refine s_d6 ?_ | refine s_hloadP ?_) | (refine g_hstore ?_; (refine s_hstoreB ?_; intro G' hle ho hkp))) | (with_reducible refine i_vc ?_; first | refine v_seq ?_ | refine v_ops ?_ | (refine g_cond ?_; first | refine s_cond_t ?_ | refine s_cond_f ?_) | refine v_skip ?_ | refine v_ret ?_ | refine s_drawl ?_ | refine v_draw0 ?_) | (with_reducible refine i_plan ?_; first | refine p_done ?_ | refine s_pre ?_ | refine s_preN ?_ | refine s_ag_t ?_ | refine s_ag_f ?_ | refine s_alt ?_ | refine p_alt ?_ ?_) | (with_reducible first | refine n_then ?_ | refine r_then ?_ | refine e_then ?_ | (refine g_stand ?_; first | refine s_stand ?_ | refine s_standL ?_)) | ((with_reducible first | refine s_cond_c ?_ ?_) <;> intro hb <;> rw [hb] <;> (try simp only [decide_eq_true_eq, decide_eq_false_iff_not, beq_iff_eq, bne_iff_ne, beq_eq_false_iff_ne, bne_eq_false_iff_eq, ne_eq, Int.not_lt, Int.not_le, gt_iff_lt, ge_iff_le, Bool.not_eq_true', Bool.not_eq_false'] at hb)) | ((with_reducible first | refine s_ret ?_ | refine s_normal ?_); try simp only [x_tup0, x_tup1, x_tup2, x_tup3, x_tup4, x_tup5, and_true, true_and])))
  refine o_halloc ?_
  intro nb hnb
  refine o_hstore (vs := (dc true A.room (.map (some mb)) (.map (some lb)) us (fuV A.fuse) A.gone).toList) (b := nb) (q := 0) qrf (GH.put_same _ _ _) qrf (by simp [Value.cells]) ⟨rfl, by show 0 + 7 ≤ 7; decide, ?_, .inl (Nat.zero_le _)⟩ ?_
  · obtain ⟨ua, ul, uc, rfl⟩ := u2.shape
    rfl
  have e1 : wr #[Value.bool false, .int .i64 0, .map none, .map none, .slice none 0 0, .int .i64 0, .bool false] 0 (dc true A.room (.map (some mb)) (.map (some lb)) us (fuV A.fuse) A.gone).toList = (dc true A.room (.map (some mb)) (.map (some lb)) us (fuV A.fuse) A.gone) := by rfl
  rw [e1]
  have l1 : G.le ((G.put nb (.cells #[Value.bool false, .int .i64 0, .map none, .map none, .slice none 0 0, .int .i64 0, .bool false] 64)).put nb (.cells (dc true A.room (.map (some mb)) (.map (some lb)) us (fuV A.fuse) A.gone) 64)) := le_but (GH.le_put _ hnb) hnb fun c hc => GH.put_ne _ _ hc
  have g1 : ((G.put nb (.cells #[Value.bool false, .int .i64 0, .map none, .map none, .slice none 0 0, .int .i64 0, .bool false] 64)).put nb (.cells (dc true A.room (.map (some mb)) (.map (some lb)) us (fuV A.fuse) A.gone) 64)) nb = some (.cells (dc true A.room (.map (some mb)) (.map (some lb)) us (fuV A.fuse) A.gone) 64 (0, 0)) := GH.put_same _ _ _
  generalize (G.put nb _).put nb _ = G1 at l1 g1 ⊢
  have q2 := l1 _ _ q1
  have qu : (unp G1 nb) b = _ := (unp_ne (ne_of (GH.le_refl _) q1 hnb)).trans q2
  (repeat' (first | (with_reducible refine i_ops ?_; first | (refine g_mv ?_; refine s_mv ?_) | refine o_nil ?_ | (refine g_pure ?_; first | refine s_nilPf ?_ | refine s_nilPt ?_ | refine s_nilNf ?_ | refine s_nilNt ?_ | refine s_nilck ?_ | refine s_fptr0 ?_ | refine s_seq0 ?_ | refine s_lenSB ?_ | refine s_pure ?_ | refine s_saddB ?_) | (refine g_hload ?_; first | refine s_hbx ?_ | refine s_d0 ?_ | refine s_d1 ?_ | refine s_d2 ?_ | refine s_d3 ?_ | refine s_d4 ?_ | refine s_d5 ?_ | refine s_d6 ?_ | refine s_hloadP ?_) | (refine g_hstore ?_; (refine s_hstoreB ?_; intro G' hle ho hkp))) | (with_reducible refine i_vc ?_; first | refine v_seq ?_ | refine v_ops ?_ | (refine g_cond ?_; first | refine s_cond_t ?_ | refine s_cond_f ?_) | refine v_skip ?_ | refine v_ret ?_ | refine v_drawG (unp G1 nb) qle ?_) | (with_reducible refine i_plan ?_; first | refine p_done ?_ | refine s_preN ?_ | refine p_preG qrf ?_ | refine s_ag_t ?_ | refine s_ag_f ?_ | refine s_alt ?_ | refine p_alt ?_ ?_) | (with_reducible first | refine n_then ?_ | refine r_then ?_ | refine e_then ?_ | (refine g_stand ?_; first | refine s_stand ?_ | refine s_standL ?_)) | (with_reducible refine k_back ?_) | ((with_reducible first | refine s_cond_c ?_ ?_) <;> intro hb <;> rw [hb] <;> (try simp only [decide_eq_true_eq, decide_eq_false_iff_not, beq_iff_eq, bne_iff_ne, beq_eq_false_iff_ne, bne_eq_false_iff_eq, ne_eq, Int.not_lt, Int.not_le, gt_iff_lt, ge_iff_le, Bool.not_eq_true', Bool.not_eq_false'] at hb)) | ((with_reducible first | refine s_ret ?_ | refine s_normal ?_); try simp only [x_tup0, x_tup1, x_tup2, x_tup3, x_tup4, x_tup5, and_true, true_and])))
  refine v_drawG (unp G1 nb) (unp_le _ _) ?_
  refine p_preG qrf ?_
  (repeat' (first | (with_reducible refine i_ops ?_; first | (refine g_mv ?_; refine s_mv ?_) | refine o_nil ?_ | (refine g_pure ?_; first | refine s_nilPf ?_ | refine s_nilPt ?_ | refine s_nilNf ?_ | refine s_nilNt ?_ | refine s_nilck ?_ | refine s_fptr0 ?_ | refine s_seq0 ?_ | refine s_lenSB ?_ | refine s_pure ?_ | refine s_saddB ?_) | (refine g_hload ?_; first | refine s_hbx ?_ | refine s_d0 ?_ | refine s_d1 ?_ | refine s_d2 ?_ | refine s_d3 ?_ | refine s_d4 ?_ | refine s_d5 ?_ | refine s_d6 ?_ | refine s_hloadP ?_) | (refine g_hstore ?_; (refine s_hstoreB ?_; intro G' hle ho hkp))) | (with_reducible refine i_vc ?_; first | refine v_seq ?_ | refine v_ops ?_ | (refine g_cond ?_; first | refine s_cond_t ?_ | refine s_cond_f ?_) | refine v_skip ?_ | refine v_ret ?_ | refine s_drawl ?_ | refine v_draw0 ?_) | (with_reducible refine i_plan ?_; first | refine p_done ?_ | refine s_pre ?_ | refine s_preN ?_ | refine s_ag_t ?_ | refine s_ag_f ?_ | refine s_alt ?_ | refine p_alt ?_ ?_) | (with_reducible first | refine n_then ?_ | refine r_then ?_ | refine e_then ?_ | (refine g_stand ?_; first | refine s_stand ?_ | refine s_standL ?_)) | ((with_reducible first | refine s_cond_c ?_ ?_) <;> intro hb <;> rw [hb] <;> (try simp only [decide_eq_true_eq, decide_eq_false_iff_not, beq_iff_eq, bne_iff_ne, beq_eq_false_iff_ne, bne_eq_false_iff_eq, ne_eq, Int.not_lt, Int.not_le, gt_iff_lt, ge_iff_le, Bool.not_eq_true', Bool.not_eq_false'] at hb)) | ((with_reducible first | refine s_ret ?_ | refine s_normal ?_); try simp only [x_tup0, x_tup1, x_tup2, x_tup3, x_tup4, x_tup5, and_true, true_and])))
  refine k_back ?_
  have hup : (unp G1 nb).le G1 := unp_le _ _
  have hG := l1
  have h1 : G1.le G1 := GH.le_refl _
  have gn : G1 nb ≠ none := by rw [g1]; simp
  (repeat' (first | (with_reducible refine i_ops ?_; first | (refine g_mv ?_; refine s_mv ?_) | refine o_nil ?_ | (refine g_pure ?_; first | refine s_nilPf ?_ | refine s_nilPt ?_ | refine s_nilNf ?_ | refine s_nilNt ?_ | refine s_nilck ?_ | refine s_fptr0 ?_ | refine s_seq0 ?_ | refine s_lenSB ?_ | refine s_pure ?_ | refine s_saddB ?_) | (refine g_hload ?_; first | refine s_hbx ?_ | refine s_d0 ?_ | refine s_d1 ?_ | refine s_d2 ?_ | refine s_d3 ?_ | refine s_d4 ?_ | refine s_d5 ?_ | refine s_d6 ?_ | refine s_hloadP ?_) | (refine g_hstore ?_; (refine s_hstoreB ?_; intro G' hle ho hkp))) | (with_reducible refine i_vc ?_; first | refine v_seq ?_ | refine v_ops ?_ | (refine g_cond ?_; first | refine s_cond_t ?_ | refine s_cond_f ?_) | refine v_skip ?_ | refine v_ret ?_ | refine s_drawl ?_ | refine v_draw0 ?_) | (with_reducible refine i_plan ?_; first | refine p_done ?_ | refine s_pre ?_ | refine s_preN ?_ | refine s_ag_t ?_ | refine s_ag_f ?_ | refine s_alt ?_ | refine p_alt ?_ ?_) | (with_reducible first | refine n_then ?_ | refine r_then ?_ | refine e_then ?_ | (refine g_stand ?_; first | refine s_stand ?_ | refine s_standL ?_)) | ((with_reducible first | refine s_cond_c ?_ ?_) <;> intro hb <;> rw [hb] <;> (try simp only [decide_eq_true_eq, decide_eq_false_iff_not, beq_iff_eq, bne_iff_ne, beq_eq_false_iff_ne, bne_eq_false_iff_eq, ne_eq, Int.not_lt, Int.not_le, gt_iff_lt, ge_iff_le, Bool.not_eq_true', Bool.not_eq_false'] at hb)) | ((with_reducible first | refine s_ret ?_ | refine s_normal ?_); try simp only [x_tup0, x_tup1, x_tup2, x_tup3, x_tup4, x_tup5, and_true, true_and])))
  all_goals
    repeat' (first
      | (refine o_callc qrf (cloneK hG w1 w2) ?_
         rintro _ Ga ⟨ba, rfl, la, na, oa⟩
         have na1 := le_none h1 na
         try (have nml : ba ≠ bb := (ne_of (GH.le_refl _) ob na).symm)
         try (have ob := la _ _ ob)
         try (have hu := hu.le la)
         have q2 := la _ _ q2
         have g1 := la _ _ g1
         have hup := GH.le_trans hup la
         have hG := GH.le_trans hG la
         have h1 := GH.le_trans h1 la
         refine s_stand ?_
         (repeat' (first | (with_reducible refine i_ops ?_; first | (refine g_mv ?_; refine s_mv ?_) | refine o_nil ?_ | (refine g_pure ?_; first | refine s_nilPf ?_ | refine s_nilPt ?_ | refine s_nilNf ?_ | refine s_nilNt ?_ | refine s_nilck ?_ | refine s_fptr0 ?_ | refine s_seq0 ?_ | refine s_lenSB ?_ | refine s_pure ?_ | refine s_saddB ?_) | (refine g_hload ?_; first | refine s_hbx ?_ | refine s_d0 ?_ | refine s_d1 ?_ | refine s_d2 ?_ | refine s_d3 ?_ | refine s_d4 ?_ | refine s_d5 ?_ | refine s_d6 ?_ | refine s_hloadP ?_) | (refine g_hstore ?_; (refine s_hstoreB ?_; intro G' hle ho hkp))) | (with_reducible refine i_vc ?_; first | refine v_seq ?_ | refine v_ops ?_ | (refine g_cond ?_; first | refine s_cond_t ?_ | refine s_cond_f ?_) | refine v_skip ?_ | refine v_ret ?_ | refine s_drawl ?_ | refine v_draw0 ?_) | (with_reducible refine i_plan ?_; first | refine p_done ?_ | refine s_pre ?_ | refine s_preN ?_ | refine s_ag_t ?_ | refine s_ag_f ?_ | refine s_alt ?_ | refine p_alt ?_ ?_) | (with_reducible first | refine n_then ?_ | refine r_then ?_ | refine e_then ?_ | (refine g_stand ?_; first | refine s_stand ?_ | refine s_standL ?_)) | ((with_reducible first | refine s_cond_c ?_ ?_) <;> intro hb <;> rw [hb] <;> (try simp only [decide_eq_true_eq, decide_eq_false_iff_not, beq_iff_eq, bne_iff_ne, beq_eq_false_iff_ne, bne_eq_false_iff_eq, ne_eq, Int.not_lt, Int.not_le, gt_iff_lt, ge_iff_le, Bool.not_eq_true', Bool.not_eq_false'] at hb)) | ((with_reducible first | refine s_ret ?_ | refine s_normal ?_); try simp only [x_tup0, x_tup1, x_tup2, x_tup3, x_tup4, x_tup5, and_true, true_and]))))
      | (refine o_callc qrf (cloneK hG r1' r2) ?_
         rintro _ Gb ⟨bb, rfl, la, nbb, ob⟩
         have nb1 := le_none h1 nbb
         try (have nml : ba ≠ bb := ne_of (GH.le_refl _) oa nbb)
         try (have oa := la _ _ oa)
         try (have hu := hu.le la)
         have q2 := la _ _ q2
         have g1 := la _ _ g1
         have hup := GH.le_trans hup la
         have hG := GH.le_trans hG la
         have h1 := GH.le_trans h1 la
         refine s_stand ?_
         (repeat' (first | (with_reducible refine i_ops ?_; first | (refine g_mv ?_; refine s_mv ?_) | refine o_nil ?_ | (refine g_pure ?_; first | refine s_nilPf ?_ | refine s_nilPt ?_ | refine s_nilNf ?_ | refine s_nilNt ?_ | refine s_nilck ?_ | refine s_fptr0 ?_ | refine s_seq0 ?_ | refine s_lenSB ?_ | refine s_pure ?_ | refine s_saddB ?_) | (refine g_hload ?_; first | refine s_hbx ?_ | refine s_d0 ?_ | refine s_d1 ?_ | refine s_d2 ?_ | refine s_d3 ?_ | refine s_d4 ?_ | refine s_d5 ?_ | refine s_d6 ?_ | refine s_hloadP ?_) | (refine g_hstore ?_; (refine s_hstoreB ?_; intro G' hle ho hkp))) | (with_reducible refine i_vc ?_; first | refine v_seq ?_ | refine v_ops ?_ | (refine g_cond ?_; first | refine s_cond_t ?_ | refine s_cond_f ?_) | refine v_skip ?_ | refine v_ret ?_ | refine s_drawl ?_ | refine v_draw0 ?_) | (with_reducible refine i_plan ?_; first | refine p_done ?_ | refine s_pre ?_ | refine s_preN ?_ | refine s_ag_t ?_ | refine s_ag_f ?_ | refine s_alt ?_ | refine p_alt ?_ ?_) | (with_reducible first | refine n_then ?_ | refine r_then ?_ | refine e_then ?_ | (refine g_stand ?_; first | refine s_stand ?_ | refine s_standL ?_)) | ((with_reducible first | refine s_cond_c ?_ ?_) <;> intro hb <;> rw [hb] <;> (try simp only [decide_eq_true_eq, decide_eq_false_iff_not, beq_iff_eq, bne_iff_ne, beq_eq_false_iff_ne, bne_eq_false_iff_eq, ne_eq, Int.not_lt, Int.not_le, gt_iff_lt, ge_iff_le, Bool.not_eq_true', Bool.not_eq_false'] at hb)) | ((with_reducible first | refine s_ret ?_ | refine s_normal ?_); try simp only [x_tup0, x_tup1, x_tup2, x_tup3, x_tup4, x_tup5, and_true, true_and]))))
      | (refine o_callc qrf (cloneU us xs _ (u2.sl.le hG) (by omega) u1.cells) ?_
         rintro _ Gc ⟨la, hu⟩
         have lu := h1
         obtain ⟨ua, ul, uc, rfl⟩ := hu.shape
         try (have oa := la _ _ oa)
         try (have ob := la _ _ ob)
         have q2 := la _ _ q2
         have g1 := la _ _ g1
         have hup := GH.le_trans hup la
         have hG := GH.le_trans hG la
         have h1 := GH.le_trans h1 la
         refine s_stand ?_
         (repeat' (first | (with_reducible refine i_ops ?_; first | (refine g_mv ?_; refine s_mv ?_) | refine o_nil ?_ | (refine g_pure ?_; first | refine s_nilPf ?_ | refine s_nilPt ?_ | refine s_nilNf ?_ | refine s_nilNt ?_ | refine s_nilck ?_ | refine s_fptr0 ?_ | refine s_seq0 ?_ | refine s_lenSB ?_ | refine s_pure ?_ | refine s_saddB ?_) | (refine g_hload ?_; first | refine s_hbx ?_ | refine s_d0 ?_ | refine s_d1 ?_ | refine s_d2 ?_ | refine s_d3 ?_ | refine s_d4 ?_ | refine s_d5 ?_ | refine s_d6 ?_ | refine s_hloadP ?_) | (refine g_hstore ?_; (refine s_hstoreB ?_; intro G' hle ho hkp))) | (with_reducible refine i_vc ?_; first | refine v_seq ?_ | refine v_ops ?_ | (refine g_cond ?_; first | refine s_cond_t ?_ | refine s_cond_f ?_) | refine v_skip ?_ | refine v_ret ?_ | refine s_drawl ?_ | refine v_draw0 ?_) | (with_reducible refine i_plan ?_; first | refine p_done ?_ | refine s_pre ?_ | refine s_preN ?_ | refine s_ag_t ?_ | refine s_ag_f ?_ | refine s_alt ?_ | refine p_alt ?_ ?_) | (with_reducible first | refine n_then ?_ | refine r_then ?_ | refine e_then ?_ | (refine g_stand ?_; first | refine s_stand ?_ | refine s_standL ?_)) | ((with_reducible first | refine s_cond_c ?_ ?_) <;> intro hb <;> rw [hb] <;> (try simp only [decide_eq_true_eq, decide_eq_false_iff_not, beq_iff_eq, bne_iff_ne, beq_eq_false_iff_ne, bne_eq_false_iff_eq, ne_eq, Int.not_lt, Int.not_le, gt_iff_lt, ge_iff_le, Bool.not_eq_true', Bool.not_eq_false'] at hb)) | ((with_reducible first | refine s_ret ?_ | refine s_normal ?_); try simp only [x_tup0, x_tup1, x_tup2, x_tup3, x_tup4, x_tup5, and_true, true_and])))))
  all_goals
    refine o_hst (q := 2) (cs' := dc true A.room (.map (some ba)) (.map (some lb)) us (fuV A.fuse) A.gone) qrf qrf g1 rfl rfl (by show 2 < 7; decide) rfl ?_
    intro Gs gs ks
    have hup := le_but hup (unp_self _ _) ks
    refine s_stand ?_
    (repeat' (first | (with_reducible refine i_ops ?_; first | (refine g_mv ?_; refine s_mv ?_) | refine o_nil ?_ | (refine g_pure ?_; first | refine s_nilPf ?_ | refine s_nilPt ?_ | refine s_nilNf ?_ | refine s_nilNt ?_ | refine s_nilck ?_ | refine s_fptr0 ?_ | refine s_seq0 ?_ | refine s_lenSB ?_ | refine s_pure ?_ | refine s_saddB ?_) | (refine g_hload ?_; first | refine s_hbx ?_ | refine s_d0 ?_ | refine s_d1 ?_ | refine s_d2 ?_ | refine s_d3 ?_ | refine s_d4 ?_ | refine s_d5 ?_ | refine s_d6 ?_ | refine s_hloadP ?_) | (refine g_hstore ?_; (refine s_hstoreB ?_; intro G' hle ho hkp))) | (with_reducible refine i_vc ?_; first | refine v_seq ?_ | refine v_ops ?_ | (refine g_cond ?_; first | refine s_cond_t ?_ | refine s_cond_f ?_) | refine v_skip ?_ | refine v_ret ?_ | refine s_drawl ?_ | refine v_draw0 ?_) | (with_reducible refine i_plan ?_; first | refine p_done ?_ | refine s_pre ?_ | refine s_preN ?_ | refine s_ag_t ?_ | refine s_ag_f ?_ | refine s_alt ?_ | refine p_alt ?_ ?_) | (with_reducible first | refine n_then ?_ | refine r_then ?_ | refine e_then ?_ | (refine g_stand ?_; first | refine s_stand ?_ | refine s_standL ?_)) | ((with_reducible first | refine s_cond_c ?_ ?_) <;> intro hb <;> rw [hb] <;> (try simp only [decide_eq_true_eq, decide_eq_false_iff_not, beq_iff_eq, bne_iff_ne, beq_eq_false_iff_ne, bne_eq_false_iff_eq, ne_eq, Int.not_lt, Int.not_le, gt_iff_lt, ge_iff_le, Bool.not_eq_true', Bool.not_eq_false'] at hb)) | ((with_reducible first | refine s_ret ?_ | refine s_normal ?_); try simp only [x_tup0, x_tup1, x_tup2, x_tup3, x_tup4, x_tup5, and_true, true_and])))
    refine o_hst (q := 3) (cs' := dc true A.room (.map (some ba)) (.map (some bb)) us (fuV A.fuse) A.gone) qrf qrf gs rfl rfl (by show 3 < 7; decide) rfl ?_
    intro Gs2 gs2 ks2
    have hup := le_but hup (unp_self _ _) ks2
    refine s_stand ?_
    (repeat' (first | (with_reducible refine i_ops ?_; first | (refine g_mv ?_; refine s_mv ?_) | refine o_nil ?_ | (refine g_pure ?_; first | refine s_nilPf ?_ | refine s_nilPt ?_ | refine s_nilNf ?_ | refine s_nilNt ?_ | refine s_nilck ?_ | refine s_fptr0 ?_ | refine s_seq0 ?_ | refine s_lenSB ?_ | refine s_pure ?_ | refine s_saddB ?_) | (refine g_hload ?_; first | refine s_hbx ?_ | refine s_d0 ?_ | refine s_d1 ?_ | refine s_d2 ?_ | refine s_d3 ?_ | refine s_d4 ?_ | refine s_d5 ?_ | refine s_d6 ?_ | refine s_hloadP ?_) | (refine g_hstore ?_; (refine s_hstoreB ?_; intro G' hle ho hkp))) | (with_reducible refine i_vc ?_; first | refine v_seq ?_ | refine v_ops ?_ | (refine g_cond ?_; first | refine s_cond_t ?_ | refine s_cond_f ?_) | refine v_skip ?_ | refine v_ret ?_ | refine s_drawl ?_ | refine v_draw0 ?_) | (with_reducible refine i_plan ?_; first | refine p_done ?_ | refine s_pre ?_ | refine s_preN ?_ | refine s_ag_t ?_ | refine s_ag_f ?_ | refine s_alt ?_ | refine p_alt ?_ ?_) | (with_reducible first | refine n_then ?_ | refine r_then ?_ | refine e_then ?_ | (refine g_stand ?_; first | refine s_stand ?_ | refine s_standL ?_)) | ((with_reducible first | refine s_cond_c ?_ ?_) <;> intro hb <;> rw [hb] <;> (try simp only [decide_eq_true_eq, decide_eq_false_iff_not, beq_iff_eq, bne_iff_ne, beq_eq_false_iff_ne, bne_eq_false_iff_eq, ne_eq, Int.not_lt, Int.not_le, gt_iff_lt, ge_iff_le, Bool.not_eq_true', Bool.not_eq_false'] at hb)) | ((with_reducible first | refine s_ret ?_ | refine s_normal ?_); try simp only [x_tup0, x_tup1, x_tup2, x_tup3, x_tup4, x_tup5, and_true, true_and])))
    refine o_hst (q := 4) (cs' := dc true A.room (.map (some ba)) (.map (some bb)) (.slice ua ul uc) (fuV A.fuse) A.gone) qrf qrf gs2 rfl rfl (by show 4 < 7; decide) rfl ?_
    intro Gs3 gs3 ks3
    have hup := le_but hup (unp_self _ _) ks3
    refine s_stand ?_
    (repeat' (first | (with_reducible refine i_ops ?_; first | (refine g_mv ?_; refine s_mv ?_) | refine o_nil ?_ | (refine g_pure ?_; first | refine s_nilPf ?_ | refine s_nilPt ?_ | refine s_nilNf ?_ | refine s_nilNt ?_ | refine s_nilck ?_ | refine s_fptr0 ?_ | refine s_seq0 ?_ | refine s_lenSB ?_ | refine s_pure ?_ | refine s_saddB ?_) | (refine g_hload ?_; first | refine s_hbx ?_ | refine s_d0 ?_ | refine s_d1 ?_ | refine s_d2 ?_ | refine s_d3 ?_ | refine s_d4 ?_ | refine s_d5 ?_ | refine s_d6 ?_ | refine s_hloadP ?_) | (refine g_hstore ?_; (refine s_hstoreB ?_; intro G' hle ho hkp))) | (with_reducible refine i_vc ?_; first | refine v_seq ?_ | refine v_ops ?_ | (refine g_cond ?_; first | refine s_cond_t ?_ | refine s_cond_f ?_) | refine v_skip ?_ | refine v_ret ?_ | refine s_drawl ?_ | refine v_draw0 ?_) | (with_reducible refine i_plan ?_; first | refine p_done ?_ | refine s_pre ?_ | refine s_preN ?_ | refine s_ag_t ?_ | refine s_ag_f ?_ | refine s_alt ?_ | refine p_alt ?_ ?_) | (with_reducible first | refine n_then ?_ | refine r_then ?_ | refine e_then ?_ | (refine g_stand ?_; first | refine s_stand ?_ | refine s_standL ?_)) | ((with_reducible first | refine s_cond_c ?_ ?_) <;> intro hb <;> rw [hb] <;> (try simp only [decide_eq_true_eq, decide_eq_false_iff_not, beq_iff_eq, bne_iff_ne, beq_eq_false_iff_ne, bne_eq_false_iff_eq, ne_eq, Int.not_lt, Int.not_le, gt_iff_lt, ge_iff_le, Bool.not_eq_true', Bool.not_eq_false'] at hb)) | ((with_reducible first | refine s_ret ?_ | refine s_normal ?_); try simp only [x_tup0, x_tup1, x_tup2, x_tup3, x_tup4, x_tup5, and_true, true_and])))
    exact cop_of h l1 hnb h1 na1 nb1 gn oa ob nml w2 w3 r2 r3 lu u1 hu (fun c hc => (ks3 c hc).trans ((ks2 c hc).trans (ks c hc))) gs3
end
end Go.Proofs.Ytbmhdmkmnhaffaa.V
end
section
/- DiskNobody: a disk that no call made has nothing, and takes nothing. -/
set_option linter.unusedVariables false
set_option linter.unusedSimpArgs false
set_option maxRecDepth 20000
-- @pre g_hload s_hbx s_d0 s_d1 s_d2 s_d3 s_d4 s_d5 s_d6
-- @pre g_lload s_ac0 s_ac1 s_ac2 s_ac3 s_ac4
-- @extra s_nilPf s_nilPt s_nilNf s_nilNt s_nilck s_fptr0 s_seq0 s_lenSB
namespace Go.Proofs.Ytbmhdmkmnhaffaa.V
open Go.RowKit Go.ChangeShapes Go.WideShapes
/-- An act's cells: kind, number, names, bytes. -/
def ac (kind n : Int) (s s' : Nm) (u : Value) : Array Value := #[.int .i64 kind, .int .i64 n, sv s, sv s', u]
section
variable {P : Program} {E : Env} {K : St → Prop} {r : List Stp} {dd : Option Nat} {L : SL} {A : AL} {G : GH} {d k s0 : Nat} {kind n : Int} {s s' : Nm} {u : Value}
theorem s_ac0 (h : vops P E r K (S (.set d (.int .i64 kind) L) A G)) (hp : L.get s0 = some (.int .u64 0) := by with_unfolding_all rfl) (hc : A.get k = some (ac kind n s s' u) := by with_unfolding_all rfl) : vops P E (⟨none, dd, .lload d k s0 1 false⟩ :: r) K (S L A G) := o_lload hp hc rfl h
theorem s_ac1 (h : vops P E r K (S (.set d (.int .i64 n) L) A G)) (hp : L.get s0 = some (.int .u64 1) := by with_unfolding_all rfl) (hc : A.get k = some (ac kind n s s' u) := by with_unfolding_all rfl) : vops P E (⟨none, dd, .lload d k s0 1 false⟩ :: r) K (S L A G) := o_lload hp hc rfl h
theorem s_ac2 (h : vops P E r K (S (.set d (sv s) L) A G)) (hp : L.get s0 = some (.int .u64 2) := by with_unfolding_all rfl) (hc : A.get k = some (ac kind n s s' u) := by with_unfolding_all rfl) : vops P E (⟨none, dd, .lload d k s0 1 false⟩ :: r) K (S L A G) := o_lload hp hc rfl h
theorem s_ac3 (h : vops P E r K (S (.set d (sv s') L) A G)) (hp : L.get s0 = some (.int .u64 3) := by with_unfolding_all rfl) (hc : A.get k = some (ac kind n s s' u) := by with_unfolding_all rfl) : vops P E (⟨none, dd, .lload d k s0 1 false⟩ :: r) K (S L A G) := o_lload hp hc rfl h
theorem s_ac4 (h : vops P E r K (S (.set d (u) L) A G)) (hp : L.get s0 = some (.int .u64 4) := by with_unfolding_all rfl) (hc : A.get k = some (ac kind n s s' u) := by with_unfolding_all rfl) : vops P E (⟨none, dd, .lload d k s0 1 false⟩ :: r) K (S L A G) := o_lload hp hc rfl h
end
end Go.Proofs.Ytbmhdmkmnhaffaa.V
end
section
/- The law's acts on a disk alone; how many units an act is. -/
set_option linter.unusedVariables false
set_option linter.unusedSimpArgs false
-- @pre g_hload s_hbx s_d0 s_d1 s_d2 s_d3 s_d4 s_d5 s_d6
-- @pre g_lload s_ac0 s_ac1 s_ac2 s_ac3 s_ac4
-- @extra s_nilPf s_nilPt s_nilNf s_nilNt s_nilck s_fptr0 s_seq0 s_lenSB
namespace Go.Proofs.Ytbmhdmkmnhaffaa.V
open Go.RowKit Go.ChangeShapes Go.WideShapes
/-- An act. -/
structure Act where
  kind : Int
  n : Int
  s : Nm
  s' : Nm
  bs : Bs
def AD.act (A : AD) (a : Act) : AD × Int :=
  if a.kind = 0 then A.append a.s a.bs else if a.kind = 1 then A.replace a.s a.s' else if a.kind = 2 then A.remove a.s else if a.kind = 7 then A.cut a.s a.n else (A, 2)
def Act.whole (a : Act) : Nat := if a.kind = 0 then 1 + a.bs.length else 1
structure Act.Ok (a : Act) : Prop where
  n1 : -9223372036854775808 ≤ a.n
  n2 : a.n ≤ 9223372036854775807
  s : a.s.length ≤ 4611686018427387904
  s' : a.s'.length ≤ 4611686018427387904
  bs : a.bs.length ≤ 4611686018427387904
theorem AD.Ok.act {N : Nat} {A : AD} (h : A.Ok N) (a : Act) : (A.act a).1.Ok (N + 1) := by
  unfold AD.act
  split
  · exact h.append _ _
  · split
    · exact h.replace _ _
    · split
      · exact h.remove _
      · split
        · exact h.cut _ _
        · exact h.mono (Nat.le_succ _)
theorem one_part {G : GH} {u w : Value} {bs : List UInt8} (hu : Sl 1 G u [w]) (hw : By G w bs) : Parts G u [w] [bs] :=
  ⟨hu, rfl, fun i hi => by
    have : i = 0 := by simpa using hi
    subst this
    exact ⟨w, rfl, hw⟩⟩
section
variable {N : Nat} {I G : GH} {b mb : Nat} {us : Value} {A : AD}
theorem actP (h : PD N I G b mb us A) (hN : N ≤ 1000000) (a : Act) (ha : a.Ok) (u : Value) (hu : By G u a.bs) : HC Try.prog 10 #[pt b, .agg (ac a.kind a.n a.s a.s' u)] G fun v G' => Left (N + 1) I b mb (A.act a) v G' := by
  obtain ⟨ua, ul, uc, rfl⟩ := hu.shape
  refine HC.start comp10 rfl ?_; unfold pc10
  (repeat' (first | (with_reducible refine i_ops ?_; first | (refine g_mv ?_; refine s_mv ?_) | refine o_nil ?_ | (refine g_len ?_; first | refine s_lenB ?_ | refine s_pure ?_) | (refine g_pure ?_; first | refine s_nilPf ?_ | refine s_nilPt ?_ | refine s_nilNf ?_ | refine s_nilNt ?_ | refine s_nilck ?_ | refine s_fptr0 ?_ | refine s_seq0 ?_ | refine s_lenSB ?_ | refine s_pure ?_ | refine s_saddB ?_) | (refine g_lfield ?_; refine s_lfield ?_) | (refine g_lload ?_; first | refine s_ac0 ?_ | refine s_ac1 ?_ | refine s_ac2 ?_ | refine s_ac3 ?_ | refine s_ac4 ?_ | refine s_lload ?_) | (refine g_lbox ?_; refine s_lbox ?_)) | (with_reducible refine i_vc ?_; first | refine v_seq ?_ | refine v_ops ?_ | (refine g_cond ?_; first | refine s_cond_t ?_ | refine s_cond_f ?_) | refine v_block ?_ | refine v_skip ?_ | refine v_exit ?_ | refine v_ret ?_) | (with_reducible first | refine n_then ?_ | refine r_then ?_ | refine e_then ?_ | refine n_block ?_ | refine r_block ?_ | refine e_block_eq qrf ?_ | refine e_block_ne qrf ?_) | ((with_reducible first | refine s_cond_c ?_ ?_) <;> intro hb <;> rw [hb] <;> (try simp only [decide_eq_true_eq, decide_eq_false_iff_not, beq_iff_eq, bne_iff_ne, beq_eq_false_iff_ne, bne_eq_false_iff_eq, ne_eq, Int.not_lt, Int.not_le, gt_iff_lt, ge_iff_le, Bool.not_eq_true', Bool.not_eq_false'] at hb)) | ((with_reducible first | refine s_ret ?_ | refine s_normal ?_); try simp only [x_tup0, x_tup1, x_tup2, x_tup3, x_tup4, x_tup5, and_true, true_and])))
  · have e : A.act a = A.append a.s a.bs := by unfold AD.act; rw [if_pos hb]
    rw [e]
    refine o_bsliceO (vs := [.slice ua ul uc]) qrf rfl rfl rfl rfl rfl ?_
    intro w G1 l1 ow _
    have c1 := appendP (h.up l1) hN a.s ha.s w _ [a.bs] (one_part ow.sl (Sl.le hu l1)) (by simpa using ha.bs)
    rw [show [a.bs].flatten = a.bs by simp] at c1
    (repeat' (first | (with_reducible refine i_ops ?_; first | (refine g_mv ?_; refine s_mv ?_) | refine o_nil ?_ | (refine g_len ?_; first | refine s_lenB ?_ | refine s_pure ?_) | (refine g_pure ?_; first | refine s_nilPf ?_ | refine s_nilPt ?_ | refine s_nilNf ?_ | refine s_nilNt ?_ | refine s_nilck ?_ | refine s_fptr0 ?_ | refine s_seq0 ?_ | refine s_lenSB ?_ | refine s_pure ?_ | refine s_saddB ?_) | (refine g_lfield ?_; refine s_lfield ?_) | (refine g_lload ?_; first | refine s_ac0 ?_ | refine s_ac1 ?_ | refine s_ac2 ?_ | refine s_ac3 ?_ | refine s_ac4 ?_ | refine s_lload ?_) | (refine g_lbox ?_; refine s_lbox ?_)) | (with_reducible refine i_vc ?_; first | refine v_seq ?_ | refine v_ops ?_ | (refine g_cond ?_; first | refine s_cond_t ?_ | refine s_cond_f ?_) | refine v_block ?_ | refine v_skip ?_ | refine v_exit ?_ | refine v_ret ?_) | (with_reducible first | refine n_then ?_ | refine r_then ?_ | refine e_then ?_ | refine n_block ?_ | refine r_block ?_ | refine e_block_eq qrf ?_ | refine e_block_ne qrf ?_) | ((with_reducible first | refine s_cond_c ?_ ?_) <;> intro hb <;> rw [hb] <;> (try simp only [decide_eq_true_eq, decide_eq_false_iff_not, beq_iff_eq, bne_iff_ne, beq_eq_false_iff_ne, bne_eq_false_iff_eq, ne_eq, Int.not_lt, Int.not_le, gt_iff_lt, ge_iff_le, Bool.not_eq_true', Bool.not_eq_false'] at hb)) | ((with_reducible first | refine s_ret ?_ | refine s_normal ?_); try simp only [x_tup0, x_tup1, x_tup2, x_tup3, x_tup4, x_tup5, and_true, true_and])))
    refine o_callc qrf c1 ?_
    rintro _ G2 ⟨rfl, I2, us2, l2, p2⟩
    (repeat' (first | (with_reducible refine i_ops ?_; first | (refine g_mv ?_; refine s_mv ?_) | refine o_nil ?_ | (refine g_len ?_; first | refine s_lenB ?_ | refine s_pure ?_) | (refine g_pure ?_; first | refine s_nilPf ?_ | refine s_nilPt ?_ | refine s_nilNf ?_ | refine s_nilNt ?_ | refine s_nilck ?_ | refine s_fptr0 ?_ | refine s_seq0 ?_ | refine s_lenSB ?_ | refine s_pure ?_ | refine s_saddB ?_) | (refine g_lfield ?_; refine s_lfield ?_) | (refine g_lload ?_; first | refine s_ac0 ?_ | refine s_ac1 ?_ | refine s_ac2 ?_ | refine s_ac3 ?_ | refine s_ac4 ?_ | refine s_lload ?_) | (refine g_lbox ?_; refine s_lbox ?_)) | (with_reducible refine i_vc ?_; first | refine v_seq ?_ | refine v_ops ?_ | (refine g_cond ?_; first | refine s_cond_t ?_ | refine s_cond_f ?_) | refine v_block ?_ | refine v_skip ?_ | refine v_exit ?_ | refine v_ret ?_) | (with_reducible first | refine n_then ?_ | refine r_then ?_ | refine e_then ?_ | refine n_block ?_ | refine r_block ?_ | refine e_block_eq qrf ?_ | refine e_block_ne qrf ?_) | ((with_reducible first | refine s_cond_c ?_ ?_) <;> intro hb <;> rw [hb] <;> (try simp only [decide_eq_true_eq, decide_eq_false_iff_not, beq_iff_eq, bne_iff_ne, beq_eq_false_iff_ne, bne_eq_false_iff_eq, ne_eq, Int.not_lt, Int.not_le, gt_iff_lt, ge_iff_le, Bool.not_eq_true', Bool.not_eq_false'] at hb)) | ((with_reducible first | refine s_ret ?_ | refine s_normal ?_); try simp only [x_tup0, x_tup1, x_tup2, x_tup3, x_tup4, x_tup5, and_true, true_and])))
    exact ⟨rfl, I2, us2, l2, p2⟩
  · have e : A.act a = A.replace a.s a.s' := by unfold AD.act; rw [if_neg (by omega), if_pos hb]
    rw [e]
    refine o_callc qrf (replaceP h hN a.s a.s' ha.s ha.s') ?_
    rintro _ G2 ⟨rfl, I2, us2, l2, p2⟩
    (repeat' (first | (with_reducible refine i_ops ?_; first | (refine g_mv ?_; refine s_mv ?_) | refine o_nil ?_ | (refine g_len ?_; first | refine s_lenB ?_ | refine s_pure ?_) | (refine g_pure ?_; first | refine s_nilPf ?_ | refine s_nilPt ?_ | refine s_nilNf ?_ | refine s_nilNt ?_ | refine s_nilck ?_ | refine s_fptr0 ?_ | refine s_seq0 ?_ | refine s_lenSB ?_ | refine s_pure ?_ | refine s_saddB ?_) | (refine g_lfield ?_; refine s_lfield ?_) | (refine g_lload ?_; first | refine s_ac0 ?_ | refine s_ac1 ?_ | refine s_ac2 ?_ | refine s_ac3 ?_ | refine s_ac4 ?_ | refine s_lload ?_) | (refine g_lbox ?_; refine s_lbox ?_)) | (with_reducible refine i_vc ?_; first | refine v_seq ?_ | refine v_ops ?_ | (refine g_cond ?_; first | refine s_cond_t ?_ | refine s_cond_f ?_) | refine v_block ?_ | refine v_skip ?_ | refine v_exit ?_ | refine v_ret ?_) | (with_reducible first | refine n_then ?_ | refine r_then ?_ | refine e_then ?_ | refine n_block ?_ | refine r_block ?_ | refine e_block_eq qrf ?_ | refine e_block_ne qrf ?_) | ((with_reducible first | refine s_cond_c ?_ ?_) <;> intro hb <;> rw [hb] <;> (try simp only [decide_eq_true_eq, decide_eq_false_iff_not, beq_iff_eq, bne_iff_ne, beq_eq_false_iff_ne, bne_eq_false_iff_eq, ne_eq, Int.not_lt, Int.not_le, gt_iff_lt, ge_iff_le, Bool.not_eq_true', Bool.not_eq_false'] at hb)) | ((with_reducible first | refine s_ret ?_ | refine s_normal ?_); try simp only [x_tup0, x_tup1, x_tup2, x_tup3, x_tup4, x_tup5, and_true, true_and])))
    exact ⟨rfl, I2, us2, l2, p2⟩
  · have e : A.act a = A.remove a.s := by unfold AD.act; rw [if_neg (by omega), if_neg (by omega), if_pos hb]
    rw [e]
    refine o_callc qrf (removeP h hN a.s ha.s) ?_
    rintro _ G2 ⟨rfl, I2, us2, l2, p2⟩
    (repeat' (first | (with_reducible refine i_ops ?_; first | (refine g_mv ?_; refine s_mv ?_) | refine o_nil ?_ | (refine g_len ?_; first | refine s_lenB ?_ | refine s_pure ?_) | (refine g_pure ?_; first | refine s_nilPf ?_ | refine s_nilPt ?_ | refine s_nilNf ?_ | refine s_nilNt ?_ | refine s_nilck ?_ | refine s_fptr0 ?_ | refine s_seq0 ?_ | refine s_lenSB ?_ | refine s_pure ?_ | refine s_saddB ?_) | (refine g_lfield ?_; refine s_lfield ?_) | (refine g_lload ?_; first | refine s_ac0 ?_ | refine s_ac1 ?_ | refine s_ac2 ?_ | refine s_ac3 ?_ | refine s_ac4 ?_ | refine s_lload ?_) | (refine g_lbox ?_; refine s_lbox ?_)) | (with_reducible refine i_vc ?_; first | refine v_seq ?_ | refine v_ops ?_ | (refine g_cond ?_; first | refine s_cond_t ?_ | refine s_cond_f ?_) | refine v_block ?_ | refine v_skip ?_ | refine v_exit ?_ | refine v_ret ?_) | (with_reducible first | refine n_then ?_ | refine r_then ?_ | refine e_then ?_ | refine n_block ?_ | refine r_block ?_ | refine e_block_eq qrf ?_ | refine e_block_ne qrf ?_) | ((with_reducible first | refine s_cond_c ?_ ?_) <;> intro hb <;> rw [hb] <;> (try simp only [decide_eq_true_eq, decide_eq_false_iff_not, beq_iff_eq, bne_iff_ne, beq_eq_false_iff_ne, bne_eq_false_iff_eq, ne_eq, Int.not_lt, Int.not_le, gt_iff_lt, ge_iff_le, Bool.not_eq_true', Bool.not_eq_false'] at hb)) | ((with_reducible first | refine s_ret ?_ | refine s_normal ?_); try simp only [x_tup0, x_tup1, x_tup2, x_tup3, x_tup4, x_tup5, and_true, true_and])))
    exact ⟨rfl, I2, us2, l2, p2⟩
  · have e : A.act a = A.cut a.s a.n := by unfold AD.act; rw [if_neg (by omega), if_neg (by omega), if_neg (by omega), if_pos hb]
    rw [e]
    refine o_callc qrf (cutP h hN a.s a.n ha.s ha.n1 ha.n2) ?_
    rintro _ G2 ⟨rfl, I2, us2, l2, p2⟩
    (repeat' (first | (with_reducible refine i_ops ?_; first | (refine g_mv ?_; refine s_mv ?_) | refine o_nil ?_ | (refine g_len ?_; first | refine s_lenB ?_ | refine s_pure ?_) | (refine g_pure ?_; first | refine s_nilPf ?_ | refine s_nilPt ?_ | refine s_nilNf ?_ | refine s_nilNt ?_ | refine s_nilck ?_ | refine s_fptr0 ?_ | refine s_seq0 ?_ | refine s_lenSB ?_ | refine s_pure ?_ | refine s_saddB ?_) | (refine g_lfield ?_; refine s_lfield ?_) | (refine g_lload ?_; first | refine s_ac0 ?_ | refine s_ac1 ?_ | refine s_ac2 ?_ | refine s_ac3 ?_ | refine s_ac4 ?_ | refine s_lload ?_) | (refine g_lbox ?_; refine s_lbox ?_)) | (with_reducible refine i_vc ?_; first | refine v_seq ?_ | refine v_ops ?_ | (refine g_cond ?_; first | refine s_cond_t ?_ | refine s_cond_f ?_) | refine v_block ?_ | refine v_skip ?_ | refine v_exit ?_ | refine v_ret ?_) | (with_reducible first | refine n_then ?_ | refine r_then ?_ | refine e_then ?_ | refine n_block ?_ | refine r_block ?_ | refine e_block_eq qrf ?_ | refine e_block_ne qrf ?_) | ((with_reducible first | refine s_cond_c ?_ ?_) <;> intro hb <;> rw [hb] <;> (try simp only [decide_eq_true_eq, decide_eq_false_iff_not, beq_iff_eq, bne_iff_ne, beq_eq_false_iff_ne, bne_eq_false_iff_eq, ne_eq, Int.not_lt, Int.not_le, gt_iff_lt, ge_iff_le, Bool.not_eq_true', Bool.not_eq_false'] at hb)) | ((with_reducible first | refine s_ret ?_ | refine s_normal ?_); try simp only [x_tup0, x_tup1, x_tup2, x_tup3, x_tup4, x_tup5, and_true, true_and])))
    exact ⟨rfl, I2, us2, l2, p2⟩
  · have e : A.act a = (A, 2) := by unfold AD.act; rw [if_neg (by omega), if_neg (by omega), if_neg (by omega), if_neg (by omega)]
    rw [e]
    exact ⟨rfl, I, us, GH.le_refl _, h.mono (Nat.le_succ _)⟩
end
end Go.Proofs.Ytbmhdmkmnhaffaa.V
end
