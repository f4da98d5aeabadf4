/- Two disks that have the same files. -/
import Derived.Test.YtbmhdmkmnhaffaaSYZELEN
import Derived.Test.YtbmhdmkmnhaffaaSYZVHVJ
import Derived.SizedLaws
section
set_option linter.unusedVariables false
set_option linter.unusedSimpArgs false
-- @pre g_hload s_hbx s_d0 s_d1 s_d2 s_d3 s_d4 s_d5 s_d6
-- @extra s_nilPf s_nilPt s_nilNf s_nilNt s_nilck s_fptr0 s_seq0 s_lenSB
namespace Go.Proofs.Ytbmhdmkmnhaffaa.V
open Go.RowKit Go.ChangeShapes Go.WideShapes
theorem there_in {A : AD} {k : Nat} (hg : A.gone = false) {N : Nat} (hf : Fine N A.now) (hk : k < A.now.length) : A.there A.now[k].1 = 0 ∧ fg A.now[k].1 A.now = A.now[k].2 := by
  have hm := List.getElem_mem hk
  have h1 := fget_of (s := A.now[k].1) (v := A.now[k].2) hf.so hm
  have h2 := hf.nm _ hm
  refine ⟨?_, by unfold fg; rw [h1]; rfl⟩
  unfold AD.there
  rw [hg, h2, h1]
  rfl
section
variable {N M : Nat} {I J G : GH} {a ma b mb : Nat} {ua us : Value} {A B : AD}
theorem alikeP (h : PD N I G a ma ua A) (g : PD M J G b mb us B) (hN : N ≤ 1000000) (hM : M ≤ 1000000) (ha : A.gone = false) (hB : B.gone = false) (he : A.now = B.now) : HC Try.prog 16 #[pt a, pt b] G fun v G' => v = .bool true ∧ G.le G' := by
  refine HC.start comp16 rfl ?_; unfold pc16
  (repeat' (first | (with_reducible refine i_ops ?_; first | (refine g_mv ?_; refine s_mv ?_) | refine o_nil ?_ | (refine g_some ?_; first | refine s_g_t ?_ | refine s_g_f ?_ | refine s_g_f' ?_ | refine s_g_u ?_) | (refine g_pick ?_; first | refine s_pick_t ?_ | refine s_pick_f ?_) | (refine g_pure ?_; first | refine s_nilPf ?_ | refine s_nilPt ?_ | refine s_nilNf ?_ | refine s_nilNt ?_ | refine s_nilck ?_ | refine s_fptr0 ?_ | refine s_seq0 ?_ | refine s_lenSB ?_ | refine s_pure ?_ | refine s_saddB ?_) | (refine g_hload ?_; first | refine s_hbx ?_ | refine s_d0 ?_ | refine s_d1 ?_ | refine s_d2 ?_ | refine s_d3 ?_ | refine s_d4 ?_ | refine s_d5 ?_ | refine s_d6 ?_ | refine s_hloadP ?_) | (refine g_hstore ?_; (refine s_hstoreB ?_; intro G' hle ho hkp)) | (refine g_b2s ?_; refine s_b2sB ?_)) | (with_reducible refine i_vc ?_; first | refine v_seq ?_ | refine v_ops ?_ | (refine g_cond ?_; first | refine s_cond_t ?_ | refine s_cond_f ?_) | refine v_block ?_ | refine v_skip ?_ | refine v_exit ?_ | refine v_ret ?_) | (with_reducible first | refine n_then ?_ | refine r_then ?_ | refine e_then ?_ | refine n_block ?_ | refine r_block ?_ | refine e_block_eq qrf ?_ | refine e_block_ne qrf ?_) | ((with_reducible first | refine s_g_c ?_ ?_ | refine s_cond_c ?_ ?_) <;> intro hb <;> rw [hb] <;> (try simp only [decide_eq_true_eq, decide_eq_false_iff_not, beq_iff_eq, bne_iff_ne, beq_eq_false_iff_ne, bne_eq_false_iff_eq, ne_eq, Int.not_lt, Int.not_le, gt_iff_lt, ge_iff_le, Bool.not_eq_true', Bool.not_eq_false'] at hb)) | ((with_reducible first | refine s_ret ?_ | refine s_normal ?_); try simp only [x_tup0, x_tup1, x_tup2, x_tup3, x_tup4, x_tup5, and_true, true_and])))
  refine o_hboxV qrf rfl ?_
  intro x2 G1 hx2 l1 hb2 _
  (repeat' (first | (with_reducible refine i_ops ?_; first | (refine g_mv ?_; refine s_mv ?_) | refine o_nil ?_ | (refine g_some ?_; first | refine s_g_t ?_ | refine s_g_f ?_ | refine s_g_f' ?_ | refine s_g_u ?_) | (refine g_pick ?_; first | refine s_pick_t ?_ | refine s_pick_f ?_) | (refine g_pure ?_; first | refine s_nilPf ?_ | refine s_nilPt ?_ | refine s_nilNf ?_ | refine s_nilNt ?_ | refine s_nilck ?_ | refine s_fptr0 ?_ | refine s_seq0 ?_ | refine s_lenSB ?_ | refine s_pure ?_ | refine s_saddB ?_) | (refine g_hload ?_; first | refine s_hbx ?_ | refine s_d0 ?_ | refine s_d1 ?_ | refine s_d2 ?_ | refine s_d3 ?_ | refine s_d4 ?_ | refine s_d5 ?_ | refine s_d6 ?_ | refine s_hloadP ?_) | (refine g_hstore ?_; (refine s_hstoreB ?_; intro G' hle ho hkp)) | (refine g_b2s ?_; refine s_b2sB ?_)) | (with_reducible refine i_vc ?_; first | refine v_seq ?_ | refine v_ops ?_ | (refine g_cond ?_; first | refine s_cond_t ?_ | refine s_cond_f ?_) | refine v_block ?_ | refine v_skip ?_ | refine v_exit ?_ | refine v_ret ?_) | (with_reducible first | refine n_then ?_ | refine r_then ?_ | refine e_then ?_ | refine n_block ?_ | refine r_block ?_ | refine e_block_eq qrf ?_ | refine e_block_ne qrf ?_) | ((with_reducible first | refine s_g_c ?_ ?_ | refine s_cond_c ?_ ?_) <;> intro hb <;> rw [hb] <;> (try simp only [decide_eq_true_eq, decide_eq_false_iff_not, beq_iff_eq, bne_iff_ne, beq_eq_false_iff_ne, bne_eq_false_iff_eq, ne_eq, Int.not_lt, Int.not_le, gt_iff_lt, ge_iff_le, Bool.not_eq_true', Bool.not_eq_false'] at hb)) | ((with_reducible first | refine s_ret ?_ | refine s_normal ?_); try simp only [x_tup0, x_tup1, x_tup2, x_tup3, x_tup4, x_tup5, and_true, true_and])))
  refine o_hboxV qrf rfl ?_
  intro x3 G2 hx3 l2 hb3 _
  (repeat' (first | (with_reducible refine i_ops ?_; first | (refine g_mv ?_; refine s_mv ?_) | refine o_nil ?_ | (refine g_some ?_; first | refine s_g_t ?_ | refine s_g_f ?_ | refine s_g_f' ?_ | refine s_g_u ?_) | (refine g_pick ?_; first | refine s_pick_t ?_ | refine s_pick_f ?_) | (refine g_pure ?_; first | refine s_nilPf ?_ | refine s_nilPt ?_ | refine s_nilNf ?_ | refine s_nilNt ?_ | refine s_nilck ?_ | refine s_fptr0 ?_ | refine s_seq0 ?_ | refine s_lenSB ?_ | refine s_pure ?_ | refine s_saddB ?_) | (refine g_hload ?_; first | refine s_hbx ?_ | refine s_d0 ?_ | refine s_d1 ?_ | refine s_d2 ?_ | refine s_d3 ?_ | refine s_d4 ?_ | refine s_d5 ?_ | refine s_d6 ?_ | refine s_hloadP ?_) | (refine g_hstore ?_; (refine s_hstoreB ?_; intro G' hle ho hkp)) | (refine g_b2s ?_; refine s_b2sB ?_)) | (with_reducible refine i_vc ?_; first | refine v_seq ?_ | refine v_ops ?_ | (refine g_cond ?_; first | refine s_cond_t ?_ | refine s_cond_f ?_) | refine v_block ?_ | refine v_skip ?_ | refine v_exit ?_ | refine v_ret ?_) | (with_reducible first | refine n_then ?_ | refine r_then ?_ | refine e_then ?_ | refine n_block ?_ | refine r_block ?_ | refine e_block_eq qrf ?_ | refine e_block_ne qrf ?_) | ((with_reducible first | refine s_g_c ?_ ?_ | refine s_cond_c ?_ ?_) <;> intro hb <;> rw [hb] <;> (try simp only [decide_eq_true_eq, decide_eq_false_iff_not, beq_iff_eq, bne_iff_ne, beq_eq_false_iff_ne, bne_eq_false_iff_eq, ne_eq, Int.not_lt, Int.not_le, gt_iff_lt, ge_iff_le, Bool.not_eq_true', Bool.not_eq_false'] at hb)) | ((with_reducible first | refine s_ret ?_ | refine s_normal ?_); try simp only [x_tup0, x_tup1, x_tup2, x_tup3, x_tup4, x_tup5, and_true, true_and])))
  refine o_halloc ?_
  intro x4 hx4
  have l3 : G2.le (G2.put x4 (.cells #[.bool false] 4)) := GH.le_put _ hx4
  have hb4 : (G2.put x4 (.cells #[.bool false] 4)) x4 = some (bx (.bool false) 4) := GH.put_same _ _ _
  generalize G2.put x4 _ = G3 at l3 hb4 ⊢
  (repeat' (first | (with_reducible refine i_ops ?_; first | (refine g_mv ?_; refine s_mv ?_) | refine o_nil ?_ | (refine g_some ?_; first | refine s_g_t ?_ | refine s_g_f ?_ | refine s_g_f' ?_ | refine s_g_u ?_) | (refine g_pick ?_; first | refine s_pick_t ?_ | refine s_pick_f ?_) | (refine g_pure ?_; first | refine s_nilPf ?_ | refine s_nilPt ?_ | refine s_nilNf ?_ | refine s_nilNt ?_ | refine s_nilck ?_ | refine s_fptr0 ?_ | refine s_seq0 ?_ | refine s_lenSB ?_ | refine s_pure ?_ | refine s_saddB ?_) | (refine g_hload ?_; first | refine s_hbx ?_ | refine s_d0 ?_ | refine s_d1 ?_ | refine s_d2 ?_ | refine s_d3 ?_ | refine s_d4 ?_ | refine s_d5 ?_ | refine s_d6 ?_ | refine s_hloadP ?_) | (refine g_hstore ?_; (refine s_hstoreB ?_; intro G' hle ho hkp)) | (refine g_b2s ?_; refine s_b2sB ?_)) | (with_reducible refine i_vc ?_; first | refine v_seq ?_ | refine v_ops ?_ | (refine g_cond ?_; first | refine s_cond_t ?_ | refine s_cond_f ?_) | refine v_block ?_ | refine v_skip ?_ | refine v_exit ?_ | refine v_ret ?_) | (with_reducible first | refine n_then ?_ | refine r_then ?_ | refine e_then ?_ | refine n_block ?_ | refine r_block ?_ | refine e_block_eq qrf ?_ | refine e_block_ne qrf ?_) | ((with_reducible first | refine s_g_c ?_ ?_ | refine s_cond_c ?_ ?_) <;> intro hb <;> rw [hb] <;> (try simp only [decide_eq_true_eq, decide_eq_false_iff_not, beq_iff_eq, bne_iff_ne, beq_eq_false_iff_ne, bne_eq_false_iff_eq, ne_eq, Int.not_lt, Int.not_le, gt_iff_lt, ge_iff_le, Bool.not_eq_true', Bool.not_eq_false'] at hb)) | ((with_reducible first | refine s_ret ?_ | refine s_normal ?_); try simp only [x_tup0, x_tup1, x_tup2, x_tup3, x_tup4, x_tup5, and_true, true_and])))
  refine o_halloc ?_
  intro x5 hx5
  have l4 : G3.le (G3.put x5 (.cells #[.int .i64 0] 3)) := GH.le_put _ hx5
  have hb5 : (G3.put x5 (.cells #[.int .i64 0] 3)) x5 = some (bx (.int .i64 0) 3) := GH.put_same _ _ _
  generalize G3.put x5 _ = G4 at l4 hb5 ⊢
  refine o_halloc ?_
  intro x6 hx6
  have l5 : G4.le (G4.put x6 (.cells #[.int .i64 0] 3)) := GH.le_put _ hx6
  have hb6 : (G4.put x6 (.cells #[.int .i64 0] 3)) x6 = some (bx (.int .i64 0) 3) := GH.put_same _ _ _
  generalize G4.put x6 _ = G5 at l5 hb6 ⊢
  have hb5' := l5 _ _ hb5
  refine o_setv (.int .i64 0) qrf hb5' qrf rfl rfl ?_
  intro G6 k6 v6
  have n56 : x5 ≠ x6 := ne_of (GH.le_refl _) hb5 hx6
  refine o_setv (.int .i64 0) qrf (by rw [k6 _ n56.symm]; exact hb6) qrf rfl rfl ?_
  intro G7 k7 v7
  have L3 : G.le G3 := GH.le_trans l1 (GH.le_trans l2 l3)
  have L5 : G.le G5 := GH.le_trans L3 (GH.le_trans l4 l5)
  have g4 : G x4 = none := le_none (GH.le_trans l1 l2) hx4
  have g5 : G x5 = none := le_none L3 hx5
  have g6 : G x6 = none := le_none (GH.le_trans L3 l4) hx6
  have L7 : G.le G7 := le_but (le_but L5 g5 k6) g6 k7
  have n45 : x4 ≠ x5 := ne_of (GH.le_refl _) hb4 hx5
  have n46 : x4 ≠ x6 := ne_of l4 hb4 hx6
  have n25 : x2 ≠ x5 := ne_of (GH.le_trans l2 l3) hb2 hx5
  have n26 : x2 ≠ x6 := ne_of (GH.le_trans l2 (GH.le_trans l3 l4)) hb2 hx6
  have n24 : x2 ≠ x4 := ne_of l2 hb2 hx4
  have n35 : x3 ≠ x5 := ne_of l3 hb3 hx5
  have n36 : x3 ≠ x6 := ne_of (GH.le_trans l3 l4) hb3 hx6
  have n34 : x3 ≠ x4 := ne_of (GH.le_refl _) hb3 hx4
  have f2 : G7 x2 = some (bx (pt a) 23) := by rw [k7 _ n26, k6 _ n25]; exact l5 _ _ (l4 _ _ (l3 _ _ (l2 _ _ hb2)))
  have f3 : G7 x3 = some (bx (pt b) 23) := by rw [k7 _ n36, k6 _ n35]; exact l5 _ _ (l4 _ _ (l3 _ _ hb3))
  have f4 : G7 x4 = some (bx (.bool false) 4) := by rw [k7 _ n46, k6 _ n45]; exact l5 _ _ (l4 _ _ hb4)
  have f5 : G7 x5 = some (bx (.int .i64 0) 3) := by rw [k7 _ n56]; exact v6
  have c1 := namesP (h.up L7)
  (repeat' (first | (with_reducible refine i_ops ?_; first | (refine g_mv ?_; refine s_mv ?_) | refine o_nil ?_ | (refine g_some ?_; first | refine s_g_t ?_ | refine s_g_f ?_ | refine s_g_f' ?_ | refine s_g_u ?_) | (refine g_pick ?_; first | refine s_pick_t ?_ | refine s_pick_f ?_) | (refine g_pure ?_; first | refine s_nilPf ?_ | refine s_nilPt ?_ | refine s_nilNf ?_ | refine s_nilNt ?_ | refine s_nilck ?_ | refine s_fptr0 ?_ | refine s_seq0 ?_ | refine s_lenSB ?_ | refine s_pure ?_ | refine s_saddB ?_) | (refine g_hload ?_; first | refine s_hbx ?_ | refine s_d0 ?_ | refine s_d1 ?_ | refine s_d2 ?_ | refine s_d3 ?_ | refine s_d4 ?_ | refine s_d5 ?_ | refine s_d6 ?_ | refine s_hloadP ?_) | (refine g_hstore ?_; (refine s_hstoreB ?_; intro G' hle ho hkp)) | (refine g_b2s ?_; refine s_b2sB ?_)) | (with_reducible refine i_vc ?_; first | refine v_seq ?_ | refine v_ops ?_ | (refine g_cond ?_; first | refine s_cond_t ?_ | refine s_cond_f ?_) | refine v_block ?_ | refine v_skip ?_ | refine v_exit ?_ | refine v_ret ?_) | (with_reducible first | refine n_then ?_ | refine r_then ?_ | refine e_then ?_ | refine n_block ?_ | refine r_block ?_ | refine e_block_eq qrf ?_ | refine e_block_ne qrf ?_) | ((with_reducible first | refine s_g_c ?_ ?_ | refine s_cond_c ?_ ?_) <;> intro hb <;> rw [hb] <;> (try simp only [decide_eq_true_eq, decide_eq_false_iff_not, beq_iff_eq, bne_iff_ne, beq_eq_false_iff_ne, bne_eq_false_iff_eq, ne_eq, Int.not_lt, Int.not_le, gt_iff_lt, ge_iff_le, Bool.not_eq_true', Bool.not_eq_false'] at hb)) | ((with_reducible first | refine s_ret ?_ | refine s_normal ?_); try simp only [x_tup0, x_tup1, x_tup2, x_tup3, x_tup4, x_tup5, and_true, true_and])))
  refine o_callc qrf c1 ?_
  rintro _ G8 ⟨q8, _, bi, bm, t, o, m, rfl, e1, e2, e3, e4, e5, e6⟩
  have L8 := GH.le_trans L7 q8
  have gl : (addF I G7 G8).le G8 := addF_le2 (GH.le_trans h.le L8)
  have far : ∀ x o', G x = none → G7 x = some o' → ∀ c o'', addF I G7 G8 c = some o'' → c ≠ x := fun x o' hx hx7 c o'' hc e => by
    subst e
    rw [addF_none (le_none h.le hx) hx7] at hc; cases hc
  generalize hF : unp (unp (unp G8 x4) x5) x6 = F
  have Fg : ∀ c, c ≠ x4 → c ≠ x5 → c ≠ x6 → F c = G8 c := fun c c4 c5 c6 => by rw [← hF, unp_ne c6, unp_ne c5, unp_ne c4]
  have F4 : F x4 = none := by rw [← hF, unp_ne n46, unp_ne n45, unp_self]
  have F5 : F x5 = none := by rw [← hF, unp_ne n56, unp_self]
  have F6 : F x6 = none := by rw [← hF, unp_self]
  have FG8 : F.le G8 := by rw [← hF]; exact GH.le_trans (unp_le _ _) (GH.le_trans (unp_le _ _) (unp_le _ _))
  have GF : G.le F := by rw [← hF]; exact le_unp (le_unp (le_unp L8 g4) g5) g6
  have F2 : F x2 = some (bx (pt a) 23) := by rw [Fg _ n24 n25 n26]; exact q8 _ _ f2
  have F3 : F x3 = some (bx (pt b) 23) := by rw [Fg _ n34 n35 n36]; exact q8 _ _ f3
  have Fi : F bi = some (bx (.map (some bm)) t) := by rw [Fg _ (far _ _ g4 f4 _ _ e1) (far _ _ g5 f5 _ _ e1) (far _ _ g6 v7 _ _ e1)]; exact gl _ _ e1
  have Fm : F bm = some o := by rw [Fg _ (far _ _ g4 f4 _ _ e2) (far _ _ g5 f5 _ _ e2) (far _ _ g6 v7 _ _ e2)]; exact gl _ _ e2
  have hlN : A.now.length ≤ 1000000 := Nat.le_trans h.ok.nf.len hN
  (repeat' (first | (with_reducible refine i_ops ?_; first | (refine g_mv ?_; refine s_mv ?_) | refine o_nil ?_ | (refine g_some ?_; first | refine s_g_t ?_ | refine s_g_f ?_ | refine s_g_f' ?_ | refine s_g_u ?_) | (refine g_pick ?_; first | refine s_pick_t ?_ | refine s_pick_f ?_) | (refine g_pure ?_; first | refine s_nilPf ?_ | refine s_nilPt ?_ | refine s_nilNf ?_ | refine s_nilNt ?_ | refine s_nilck ?_ | refine s_fptr0 ?_ | refine s_seq0 ?_ | refine s_lenSB ?_ | refine s_pure ?_ | refine s_saddB ?_) | (refine g_hload ?_; first | refine s_hbx ?_ | refine s_d0 ?_ | refine s_d1 ?_ | refine s_d2 ?_ | refine s_d3 ?_ | refine s_d4 ?_ | refine s_d5 ?_ | refine s_d6 ?_ | refine s_hloadP ?_) | (refine g_hstore ?_; (refine s_hstoreB ?_; intro G' hle ho hkp)) | (refine g_b2s ?_; refine s_b2sB ?_)) | (with_reducible refine i_vc ?_; first | refine v_seq ?_ | refine v_ops ?_ | (refine g_cond ?_; first | refine s_cond_t ?_ | refine s_cond_f ?_) | refine v_block ?_ | refine v_skip ?_ | refine v_exit ?_ | refine v_ret ?_) | (with_reducible first | refine n_then ?_ | refine r_then ?_ | refine e_then ?_ | refine n_block ?_ | refine r_block ?_ | refine e_block_eq qrf ?_ | refine e_block_ne qrf ?_) | ((with_reducible first | refine s_g_c ?_ ?_ | refine s_cond_c ?_ ?_) <;> intro hb <;> rw [hb] <;> (try simp only [decide_eq_true_eq, decide_eq_false_iff_not, beq_iff_eq, bne_iff_ne, beq_eq_false_iff_ne, bne_eq_false_iff_eq, ne_eq, Int.not_lt, Int.not_le, gt_iff_lt, ge_iff_le, Bool.not_eq_true', Bool.not_eq_false'] at hb)) | ((with_reducible first | refine s_ret ?_ | refine s_normal ?_); try simp only [x_tup0, x_tup1, x_tup2, x_tup3, x_tup4, x_tup5, and_true, true_and])))
  refine v_range (gf := 44) (lb := [pt bi]) F A.now.length (FilI A.now) (fun k H => F.le H ∧ H x4 = some (bx (.bool false) 4) ∧ H x5 = some (bx (.int .i64 k) 3) ∧ H x6 = some (bx (.int .i64 0) 3)) (fun _ _ => False) [(2, pt x2), (3, pt x3), (4, pt x4), (5, pt x5), (6, pt x6)] qhs rfl qrf qrf (namesItF Fi Fm e3 e4 e5 hN)
    (fun k H H' ⟨h1, h2, h3, h4⟩ hle => ⟨GH.le_trans h1 hle, hle _ _ h2, hle _ _ h3, hle _ _ h4⟩) (fun _ _ _ h _ => h) (fun k H h => h.1) ⟨FG8, q8 _ _ f4, q8 _ _ f5, q8 _ _ v7⟩ ?_ ?_ (fun _ h => h.elim) (fun _ _ h => h.elim)
  · rintro k x H0 H1 hk ⟨j1, j2, j3, j4⟩ hl ⟨hk', rfl⟩
    refine ⟨rfl, fun s l => ?_⟩
    have j3' := hl _ _ j3
    obtain ⟨tA, gA⟩ := there_in ha h.ok.nf hk'
    have hkB : k < B.now.length := by rw [← he]; exact hk'
    have e7 : B.now[k] = A.now[k] := by simp only [he]
    obtain ⟨tB, gB⟩ := there_in hB g.ok.nf hkB
    rw [e7] at tB gB
    have hnm := nameOk_len (h.ok.nf.nm _ (List.getElem_mem hk'))
    (repeat' (first | (with_reducible refine i_ops ?_; first | (refine g_mv ?_; refine s_mv ?_) | refine o_nil ?_ | (refine g_some ?_; first | refine s_g_t ?_ | refine s_g_f ?_ | refine s_g_f' ?_ | refine s_g_u ?_) | (refine g_pick ?_; first | refine s_pick_t ?_ | refine s_pick_f ?_) | (refine g_pure ?_; first | refine s_nilPf ?_ | refine s_nilPt ?_ | refine s_nilNf ?_ | refine s_nilNt ?_ | refine s_nilck ?_ | refine s_fptr0 ?_ | refine s_seq0 ?_ | refine s_lenSB ?_ | refine s_pure ?_ | refine s_saddB ?_) | (refine g_hload ?_; first | refine s_hbx ?_ | refine s_d0 ?_ | refine s_d1 ?_ | refine s_d2 ?_ | refine s_d3 ?_ | refine s_d4 ?_ | refine s_d5 ?_ | refine s_d6 ?_ | refine s_hloadP ?_) | (refine g_hstore ?_; (refine s_hstoreB ?_; intro G' hle ho hkp)) | (refine g_b2s ?_; refine s_b2sB ?_)) | (with_reducible refine i_vc ?_; first | refine v_seq ?_ | refine v_ops ?_ | (refine g_cond ?_; first | refine s_cond_t ?_ | refine s_cond_f ?_) | refine v_block ?_ | refine v_skip ?_ | refine v_exit ?_ | refine v_ret ?_) | (with_reducible first | refine n_then ?_ | refine r_then ?_ | refine e_then ?_ | refine n_block ?_ | refine r_block ?_ | refine e_block_eq qrf ?_ | refine e_block_ne qrf ?_) | ((with_reducible first | refine s_g_c ?_ ?_ | refine s_cond_c ?_ ?_) <;> intro hb <;> rw [hb] <;> (try simp only [decide_eq_true_eq, decide_eq_false_iff_not, beq_iff_eq, bne_iff_ne, beq_eq_false_iff_ne, bne_eq_false_iff_eq, ne_eq, Int.not_lt, Int.not_le, gt_iff_lt, ge_iff_le, Bool.not_eq_true', Bool.not_eq_false'] at hb)) | ((with_reducible first | refine s_ret ?_ | refine s_normal ?_); try simp only [x_tup0, x_tup1, x_tup2, x_tup3, x_tup4, x_tup5, and_true, true_and])))
    refine o_setv (.int .i64 ((k : Int) + 1)) qrf j3' qrf rfl rfl ?_
    intro H2 k2 v2
    have m1 : F.le H2 := le_but (GH.le_trans j1 hl) F5 k2
    have m2 := m1 _ _ F2
    have cA := readP (h.up (GH.le_trans GF m1)) A.now[k].1 (by omega)
    rw [tA, if_pos rfl, gA] at cA
    (repeat' (first | (with_reducible refine i_ops ?_; first | (refine g_mv ?_; refine s_mv ?_) | refine o_nil ?_ | (refine g_some ?_; first | refine s_g_t ?_ | refine s_g_f ?_ | refine s_g_f' ?_ | refine s_g_u ?_) | (refine g_pick ?_; first | refine s_pick_t ?_ | refine s_pick_f ?_) | (refine g_pure ?_; first | refine s_nilPf ?_ | refine s_nilPt ?_ | refine s_nilNf ?_ | refine s_nilNt ?_ | refine s_nilck ?_ | refine s_fptr0 ?_ | refine s_seq0 ?_ | refine s_lenSB ?_ | refine s_pure ?_ | refine s_saddB ?_) | (refine g_hload ?_; first | refine s_hbx ?_ | refine s_d0 ?_ | refine s_d1 ?_ | refine s_d2 ?_ | refine s_d3 ?_ | refine s_d4 ?_ | refine s_d5 ?_ | refine s_d6 ?_ | refine s_hloadP ?_) | (refine g_hstore ?_; (refine s_hstoreB ?_; intro G' hle ho hkp)) | (refine g_b2s ?_; refine s_b2sB ?_)) | (with_reducible refine i_vc ?_; first | refine v_seq ?_ | refine v_ops ?_ | (refine g_cond ?_; first | refine s_cond_t ?_ | refine s_cond_f ?_) | refine v_block ?_ | refine v_skip ?_ | refine v_exit ?_ | refine v_ret ?_) | (with_reducible first | refine n_then ?_ | refine r_then ?_ | refine e_then ?_ | refine n_block ?_ | refine r_block ?_ | refine e_block_eq qrf ?_ | refine e_block_ne qrf ?_) | ((with_reducible first | refine s_g_c ?_ ?_ | refine s_cond_c ?_ ?_) <;> intro hb <;> rw [hb] <;> (try simp only [decide_eq_true_eq, decide_eq_false_iff_not, beq_iff_eq, bne_iff_ne, beq_eq_false_iff_ne, bne_eq_false_iff_eq, ne_eq, Int.not_lt, Int.not_le, gt_iff_lt, ge_iff_le, Bool.not_eq_true', Bool.not_eq_false'] at hb)) | ((with_reducible first | refine s_ret ?_ | refine s_normal ?_); try simp only [x_tup0, x_tup1, x_tup2, x_tup3, x_tup4, x_tup5, and_true, true_and])))
    refine o_callc qrf cA ?_
    rintro _ H3 ⟨wA, rfl, m3, oA⟩
    have m4 := GH.le_trans m1 m3
    have m5 := m4 _ _ F3
    have cB := readP (g.up (GH.le_trans GF m4)) A.now[k].1 (by omega)
    rw [tB, if_pos rfl, gB] at cB
    (repeat' (first | (with_reducible refine i_ops ?_; first | (refine g_mv ?_; refine s_mv ?_) | refine o_nil ?_ | (refine g_some ?_; first | refine s_g_t ?_ | refine s_g_f ?_ | refine s_g_f' ?_ | refine s_g_u ?_) | (refine g_pick ?_; first | refine s_pick_t ?_ | refine s_pick_f ?_) | (refine g_pure ?_; first | refine s_nilPf ?_ | refine s_nilPt ?_ | refine s_nilNf ?_ | refine s_nilNt ?_ | refine s_nilck ?_ | refine s_fptr0 ?_ | refine s_seq0 ?_ | refine s_lenSB ?_ | refine s_pure ?_ | refine s_saddB ?_) | (refine g_hload ?_; first | refine s_hbx ?_ | refine s_d0 ?_ | refine s_d1 ?_ | refine s_d2 ?_ | refine s_d3 ?_ | refine s_d4 ?_ | refine s_d5 ?_ | refine s_d6 ?_ | refine s_hloadP ?_) | (refine g_hstore ?_; (refine s_hstoreB ?_; intro G' hle ho hkp)) | (refine g_b2s ?_; refine s_b2sB ?_)) | (with_reducible refine i_vc ?_; first | refine v_seq ?_ | refine v_ops ?_ | (refine g_cond ?_; first | refine s_cond_t ?_ | refine s_cond_f ?_) | refine v_block ?_ | refine v_skip ?_ | refine v_exit ?_ | refine v_ret ?_) | (with_reducible first | refine n_then ?_ | refine r_then ?_ | refine e_then ?_ | refine n_block ?_ | refine r_block ?_ | refine e_block_eq qrf ?_ | refine e_block_ne qrf ?_) | ((with_reducible first | refine s_g_c ?_ ?_ | refine s_cond_c ?_ ?_) <;> intro hb <;> rw [hb] <;> (try simp only [decide_eq_true_eq, decide_eq_false_iff_not, beq_iff_eq, bne_iff_ne, beq_eq_false_iff_ne, bne_eq_false_iff_eq, ne_eq, Int.not_lt, Int.not_le, gt_iff_lt, ge_iff_le, Bool.not_eq_true', Bool.not_eq_false'] at hb)) | ((with_reducible first | refine s_ret ?_ | refine s_normal ?_); try simp only [x_tup0, x_tup1, x_tup2, x_tup3, x_tup4, x_tup5, and_true, true_and])))
    refine o_callc qrf cB ?_
    rintro _ H4 ⟨wB, rfl, m6, oB⟩
    have hA : By H4 wA A.now[k].2 := Sl.le oA.sl m6
    have hB2 : By H4 wB A.now[k].2 := oB.sl
    (repeat' (first | (with_reducible refine i_ops ?_; first | (refine g_mv ?_; refine s_mv ?_) | refine o_nil ?_ | (refine g_some ?_; first | refine s_g_t ?_ | refine s_g_f ?_ | refine s_g_f' ?_ | refine s_g_u ?_) | (refine g_pick ?_; first | refine s_pick_t ?_ | refine s_pick_f ?_) | (refine g_pure ?_; first | refine s_nilPf ?_ | refine s_nilPt ?_ | refine s_nilNf ?_ | refine s_nilNt ?_ | refine s_nilck ?_ | refine s_fptr0 ?_ | refine s_seq0 ?_ | refine s_lenSB ?_ | refine s_pure ?_ | refine s_saddB ?_) | (refine g_hload ?_; first | refine s_hbx ?_ | refine s_d0 ?_ | refine s_d1 ?_ | refine s_d2 ?_ | refine s_d3 ?_ | refine s_d4 ?_ | refine s_d5 ?_ | refine s_d6 ?_ | refine s_hloadP ?_) | (refine g_hstore ?_; (refine s_hstoreB ?_; intro G' hle ho hkp)) | (refine g_b2s ?_; refine s_b2sB ?_)) | (with_reducible refine i_vc ?_; first | refine v_seq ?_ | refine v_ops ?_ | (refine g_cond ?_; first | refine s_cond_t ?_ | refine s_cond_f ?_) | refine v_block ?_ | refine v_skip ?_ | refine v_exit ?_ | refine v_ret ?_) | (with_reducible first | refine n_then ?_ | refine r_then ?_ | refine e_then ?_ | refine n_block ?_ | refine r_block ?_ | refine e_block_eq qrf ?_ | refine e_block_ne qrf ?_) | ((with_reducible first | refine s_g_c ?_ ?_ | refine s_cond_c ?_ ?_) <;> intro hb <;> rw [hb] <;> (try simp only [decide_eq_true_eq, decide_eq_false_iff_not, beq_iff_eq, bne_iff_ne, beq_eq_false_iff_ne, bne_eq_false_iff_eq, ne_eq, Int.not_lt, Int.not_le, gt_iff_lt, ge_iff_le, Bool.not_eq_true', Bool.not_eq_false'] at hb)) | ((with_reducible first | refine s_ret ?_ | refine s_normal ?_); try simp only [x_tup0, x_tup1, x_tup2, x_tup3, x_tup4, x_tup5, and_true, true_and])))
    refine ⟨GH.le_trans m4 m6, ?_, ?_, ?_⟩
    · exact m6 _ _ (m3 _ _ (by rw [k2 _ n45]; exact hl _ _ j2))
    · show H4 x5 = _
      rw [m6 _ _ (m3 _ _ v2), Int.natCast_add]
      rfl
    · exact m6 _ _ (m3 _ _ (by rw [k2 _ n56.symm]; exact hl _ _ j4))
  · rintro H ⟨i1, i2, i3, i4⟩
    have i5 := i1 _ _ F3
    have cn := namesP (g.up (GH.le_trans GF i1))
    (repeat' (first | (with_reducible refine i_ops ?_; first | (refine g_mv ?_; refine s_mv ?_) | refine o_nil ?_ | (refine g_some ?_; first | refine s_g_t ?_ | refine s_g_f ?_ | refine s_g_f' ?_ | refine s_g_u ?_) | (refine g_pick ?_; first | refine s_pick_t ?_ | refine s_pick_f ?_) | (refine g_pure ?_; first | refine s_nilPf ?_ | refine s_nilPt ?_ | refine s_nilNf ?_ | refine s_nilNt ?_ | refine s_nilck ?_ | refine s_fptr0 ?_ | refine s_seq0 ?_ | refine s_lenSB ?_ | refine s_pure ?_ | refine s_saddB ?_) | (refine g_hload ?_; first | refine s_hbx ?_ | refine s_d0 ?_ | refine s_d1 ?_ | refine s_d2 ?_ | refine s_d3 ?_ | refine s_d4 ?_ | refine s_d5 ?_ | refine s_d6 ?_ | refine s_hloadP ?_) | (refine g_hstore ?_; (refine s_hstoreB ?_; intro G' hle ho hkp)) | (refine g_b2s ?_; refine s_b2sB ?_)) | (with_reducible refine i_vc ?_; first | refine v_seq ?_ | refine v_ops ?_ | (refine g_cond ?_; first | refine s_cond_t ?_ | refine s_cond_f ?_) | refine v_block ?_ | refine v_skip ?_ | refine v_exit ?_ | refine v_ret ?_) | (with_reducible first | refine n_then ?_ | refine r_then ?_ | refine e_then ?_ | refine n_block ?_ | refine r_block ?_ | refine e_block_eq qrf ?_ | refine e_block_ne qrf ?_) | ((with_reducible first | refine s_g_c ?_ ?_ | refine s_cond_c ?_ ?_) <;> intro hb <;> rw [hb] <;> (try simp only [decide_eq_true_eq, decide_eq_false_iff_not, beq_iff_eq, bne_iff_ne, beq_eq_false_iff_ne, bne_eq_false_iff_eq, ne_eq, Int.not_lt, Int.not_le, gt_iff_lt, ge_iff_le, Bool.not_eq_true', Bool.not_eq_false'] at hb)) | ((with_reducible first | refine s_ret ?_ | refine s_normal ?_); try simp only [x_tup0, x_tup1, x_tup2, x_tup3, x_tup4, x_tup5, and_true, true_and])))
    refine o_callc qrf cn ?_
    rintro _ H9 ⟨q9, _, bi', bm', t', o', m', rfl, d1, d2, d3, d4, d5, d6⟩
    have LH := GH.le_trans GF i1
    have gl' : (addF J H H9).le H9 := addF_le2 (GH.le_trans g.le (GH.le_trans LH q9))
    have far' : ∀ c o'', addF J H H9 c = some o'' → c ≠ x6 := fun c o'' hc e => by
      subst e
      rw [addF_none (le_none g.le g6) i4] at hc; cases hc
    have Fi' : (unp H9 x6) bi' = some (bx (.map (some bm')) t') := by rw [unp_ne (far' _ _ d1)]; exact gl' _ _ d1
    have Fm' : (unp H9 x6) bm' = some o' := by rw [unp_ne (far' _ _ d2)]; exact gl' _ _ d2
    (repeat' (first | (with_reducible refine i_ops ?_; first | (refine g_mv ?_; refine s_mv ?_) | refine o_nil ?_ | (refine g_some ?_; first | refine s_g_t ?_ | refine s_g_f ?_ | refine s_g_f' ?_ | refine s_g_u ?_) | (refine g_pick ?_; first | refine s_pick_t ?_ | refine s_pick_f ?_) | (refine g_pure ?_; first | refine s_nilPf ?_ | refine s_nilPt ?_ | refine s_nilNf ?_ | refine s_nilNt ?_ | refine s_nilck ?_ | refine s_fptr0 ?_ | refine s_seq0 ?_ | refine s_lenSB ?_ | refine s_pure ?_ | refine s_saddB ?_) | (refine g_hload ?_; first | refine s_hbx ?_ | refine s_d0 ?_ | refine s_d1 ?_ | refine s_d2 ?_ | refine s_d3 ?_ | refine s_d4 ?_ | refine s_d5 ?_ | refine s_d6 ?_ | refine s_hloadP ?_) | (refine g_hstore ?_; (refine s_hstoreB ?_; intro G' hle ho hkp)) | (refine g_b2s ?_; refine s_b2sB ?_)) | (with_reducible refine i_vc ?_; first | refine v_seq ?_ | refine v_ops ?_ | (refine g_cond ?_; first | refine s_cond_t ?_ | refine s_cond_f ?_) | refine v_block ?_ | refine v_skip ?_ | refine v_exit ?_ | refine v_ret ?_) | (with_reducible first | refine n_then ?_ | refine r_then ?_ | refine e_then ?_ | refine n_block ?_ | refine r_block ?_ | refine e_block_eq qrf ?_ | refine e_block_ne qrf ?_) | ((with_reducible first | refine s_g_c ?_ ?_ | refine s_cond_c ?_ ?_) <;> intro hb <;> rw [hb] <;> (try simp only [decide_eq_true_eq, decide_eq_false_iff_not, beq_iff_eq, bne_iff_ne, beq_eq_false_iff_ne, bne_eq_false_iff_eq, ne_eq, Int.not_lt, Int.not_le, gt_iff_lt, ge_iff_le, Bool.not_eq_true', Bool.not_eq_false'] at hb)) | ((with_reducible first | refine s_ret ?_ | refine s_normal ?_); try simp only [x_tup0, x_tup1, x_tup2, x_tup3, x_tup4, x_tup5, and_true, true_and])))
    refine v_range (gf := 44) (lb := [pt bi']) (unp H9 x6) B.now.length (FilI B.now) (fun k H => (unp H9 x6).le H ∧ H x6 = some (bx (.int .i64 k) 3)) (fun _ _ => False) [(6, pt x6)] qhs rfl qrf qrf (namesItF Fi' Fm' d3 d4 d5 hM)
      (fun k H H' ⟨h1, h2⟩ hle => ⟨GH.le_trans h1 hle, hle _ _ h2⟩) (fun _ _ _ h _ => h) (fun k H h => h.1) ⟨unp_le _ _, q9 _ _ i4⟩ ?_ ?_ (fun _ h => h.elim) (fun _ _ h => h.elim)
    · rintro k x H0 H1 hk ⟨j1, j2⟩ hl ⟨hk', rfl⟩
      refine ⟨rfl, fun s l => ?_⟩
      have j2' := hl _ _ j2
      have hMB := g.ok.nf.len
      (repeat' (first | (with_reducible refine i_ops ?_; first | (refine g_mv ?_; refine s_mv ?_) | refine o_nil ?_ | (refine g_some ?_; first | refine s_g_t ?_ | refine s_g_f ?_ | refine s_g_f' ?_ | refine s_g_u ?_) | (refine g_pick ?_; first | refine s_pick_t ?_ | refine s_pick_f ?_) | (refine g_pure ?_; first | refine s_nilPf ?_ | refine s_nilPt ?_ | refine s_nilNf ?_ | refine s_nilNt ?_ | refine s_nilck ?_ | refine s_fptr0 ?_ | refine s_seq0 ?_ | refine s_lenSB ?_ | refine s_pure ?_ | refine s_saddB ?_) | (refine g_hload ?_; first | refine s_hbx ?_ | refine s_d0 ?_ | refine s_d1 ?_ | refine s_d2 ?_ | refine s_d3 ?_ | refine s_d4 ?_ | refine s_d5 ?_ | refine s_d6 ?_ | refine s_hloadP ?_) | (refine g_hstore ?_; (refine s_hstoreB ?_; intro G' hle ho hkp)) | (refine g_b2s ?_; refine s_b2sB ?_)) | (with_reducible refine i_vc ?_; first | refine v_seq ?_ | refine v_ops ?_ | (refine g_cond ?_; first | refine s_cond_t ?_ | refine s_cond_f ?_) | refine v_block ?_ | refine v_skip ?_ | refine v_exit ?_ | refine v_ret ?_) | (with_reducible first | refine n_then ?_ | refine r_then ?_ | refine e_then ?_ | refine n_block ?_ | refine r_block ?_ | refine e_block_eq qrf ?_ | refine e_block_ne qrf ?_) | ((with_reducible first | refine s_g_c ?_ ?_ | refine s_cond_c ?_ ?_) <;> intro hb <;> rw [hb] <;> (try simp only [decide_eq_true_eq, decide_eq_false_iff_not, beq_iff_eq, bne_iff_ne, beq_eq_false_iff_ne, bne_eq_false_iff_eq, ne_eq, Int.not_lt, Int.not_le, gt_iff_lt, ge_iff_le, Bool.not_eq_true', Bool.not_eq_false'] at hb)) | ((with_reducible first | refine s_ret ?_ | refine s_normal ?_); try simp only [x_tup0, x_tup1, x_tup2, x_tup3, x_tup4, x_tup5, and_true, true_and])))
      refine o_setv (.int .i64 ((k : Int) + 1)) qrf j2' qrf rfl rfl ?_
      intro H2 k2 v2
      (repeat' (first | (with_reducible refine i_ops ?_; first | (refine g_mv ?_; refine s_mv ?_) | refine o_nil ?_ | (refine g_some ?_; first | refine s_g_t ?_ | refine s_g_f ?_ | refine s_g_f' ?_ | refine s_g_u ?_) | (refine g_pick ?_; first | refine s_pick_t ?_ | refine s_pick_f ?_) | (refine g_pure ?_; first | refine s_nilPf ?_ | refine s_nilPt ?_ | refine s_nilNf ?_ | refine s_nilNt ?_ | refine s_nilck ?_ | refine s_fptr0 ?_ | refine s_seq0 ?_ | refine s_lenSB ?_ | refine s_pure ?_ | refine s_saddB ?_) | (refine g_hload ?_; first | refine s_hbx ?_ | refine s_d0 ?_ | refine s_d1 ?_ | refine s_d2 ?_ | refine s_d3 ?_ | refine s_d4 ?_ | refine s_d5 ?_ | refine s_d6 ?_ | refine s_hloadP ?_) | (refine g_hstore ?_; (refine s_hstoreB ?_; intro G' hle ho hkp)) | (refine g_b2s ?_; refine s_b2sB ?_)) | (with_reducible refine i_vc ?_; first | refine v_seq ?_ | refine v_ops ?_ | (refine g_cond ?_; first | refine s_cond_t ?_ | refine s_cond_f ?_) | refine v_block ?_ | refine v_skip ?_ | refine v_exit ?_ | refine v_ret ?_) | (with_reducible first | refine n_then ?_ | refine r_then ?_ | refine e_then ?_ | refine n_block ?_ | refine r_block ?_ | refine e_block_eq qrf ?_ | refine e_block_ne qrf ?_) | ((with_reducible first | refine s_g_c ?_ ?_ | refine s_cond_c ?_ ?_) <;> intro hb <;> rw [hb] <;> (try simp only [decide_eq_true_eq, decide_eq_false_iff_not, beq_iff_eq, bne_iff_ne, beq_eq_false_iff_ne, bne_eq_false_iff_eq, ne_eq, Int.not_lt, Int.not_le, gt_iff_lt, ge_iff_le, Bool.not_eq_true', Bool.not_eq_false'] at hb)) | ((with_reducible first | refine s_ret ?_ | refine s_normal ?_); try simp only [x_tup0, x_tup1, x_tup2, x_tup3, x_tup4, x_tup5, and_true, true_and])))
      refine ⟨le_but (GH.le_trans j1 hl) (unp_self _ _) k2, ?_⟩
      show H2 x6 = _
      rw [v2, Int.natCast_add]
      rfl
    · rintro H ⟨y1, y2⟩
      rw [← he] at y2
      have y3 : H x5 = some (bx (.int .i64 A.now.length) 3) := y1 _ _ (by rw [unp_ne n56]; exact q9 _ _ i3)
      have y4 : H x4 = some (bx (.bool false) 4) := y1 _ _ (by rw [unp_ne n46]; exact q9 _ _ i2)
      have LY : G.le H := GH.le_trans (le_unp (GH.le_trans LH q9) g6) y1
      (repeat' (first | (with_reducible refine i_ops ?_; first | (refine g_mv ?_; refine s_mv ?_) | refine o_nil ?_ | (refine g_some ?_; first | refine s_g_t ?_ | refine s_g_f ?_ | refine s_g_f' ?_ | refine s_g_u ?_) | (refine g_pick ?_; first | refine s_pick_t ?_ | refine s_pick_f ?_) | (refine g_pure ?_; first | refine s_nilPf ?_ | refine s_nilPt ?_ | refine s_nilNf ?_ | refine s_nilNt ?_ | refine s_nilck ?_ | refine s_fptr0 ?_ | refine s_seq0 ?_ | refine s_lenSB ?_ | refine s_pure ?_ | refine s_saddB ?_) | (refine g_hload ?_; first | refine s_hbx ?_ | refine s_d0 ?_ | refine s_d1 ?_ | refine s_d2 ?_ | refine s_d3 ?_ | refine s_d4 ?_ | refine s_d5 ?_ | refine s_d6 ?_ | refine s_hloadP ?_) | (refine g_hstore ?_; (refine s_hstoreB ?_; intro G' hle ho hkp)) | (refine g_b2s ?_; refine s_b2sB ?_)) | (with_reducible refine i_vc ?_; first | refine v_seq ?_ | refine v_ops ?_ | (refine g_cond ?_; first | refine s_cond_t ?_ | refine s_cond_f ?_) | refine v_block ?_ | refine v_skip ?_ | refine v_exit ?_ | refine v_ret ?_) | (with_reducible first | refine n_then ?_ | refine r_then ?_ | refine e_then ?_ | refine n_block ?_ | refine r_block ?_ | refine e_block_eq qrf ?_ | refine e_block_ne qrf ?_) | ((with_reducible first | refine s_g_c ?_ ?_ | refine s_cond_c ?_ ?_) <;> intro hb <;> rw [hb] <;> (try simp only [decide_eq_true_eq, decide_eq_false_iff_not, beq_iff_eq, bne_iff_ne, beq_eq_false_iff_ne, bne_eq_false_iff_eq, ne_eq, Int.not_lt, Int.not_le, gt_iff_lt, ge_iff_le, Bool.not_eq_true', Bool.not_eq_false'] at hb)) | ((with_reducible first | refine s_ret ?_ | refine s_normal ?_); try simp only [x_tup0, x_tup1, x_tup2, x_tup3, x_tup4, x_tup5, and_true, true_and])))
      refine o_setv (.bool true) qrf y4 qrf rfl rfl ?_
      intro H2 k2 v2
      (repeat' (first | (with_reducible refine i_ops ?_; first | (refine g_mv ?_; refine s_mv ?_) | refine o_nil ?_ | (refine g_some ?_; first | refine s_g_t ?_ | refine s_g_f ?_ | refine s_g_f' ?_ | refine s_g_u ?_) | (refine g_pick ?_; first | refine s_pick_t ?_ | refine s_pick_f ?_) | (refine g_pure ?_; first | refine s_nilPf ?_ | refine s_nilPt ?_ | refine s_nilNf ?_ | refine s_nilNt ?_ | refine s_nilck ?_ | refine s_fptr0 ?_ | refine s_seq0 ?_ | refine s_lenSB ?_ | refine s_pure ?_ | refine s_saddB ?_) | (refine g_hload ?_; first | refine s_hbx ?_ | refine s_d0 ?_ | refine s_d1 ?_ | refine s_d2 ?_ | refine s_d3 ?_ | refine s_d4 ?_ | refine s_d5 ?_ | refine s_d6 ?_ | refine s_hloadP ?_) | (refine g_hstore ?_; (refine s_hstoreB ?_; intro G' hle ho hkp)) | (refine g_b2s ?_; refine s_b2sB ?_)) | (with_reducible refine i_vc ?_; first | refine v_seq ?_ | refine v_ops ?_ | (refine g_cond ?_; first | refine s_cond_t ?_ | refine s_cond_f ?_) | refine v_block ?_ | refine v_skip ?_ | refine v_exit ?_ | refine v_ret ?_) | (with_reducible first | refine n_then ?_ | refine r_then ?_ | refine e_then ?_ | refine n_block ?_ | refine r_block ?_ | refine e_block_eq qrf ?_ | refine e_block_ne qrf ?_) | ((with_reducible first | refine s_g_c ?_ ?_ | refine s_cond_c ?_ ?_) <;> intro hb <;> rw [hb] <;> (try simp only [decide_eq_true_eq, decide_eq_false_iff_not, beq_iff_eq, bne_iff_ne, beq_eq_false_iff_ne, bne_eq_false_iff_eq, ne_eq, Int.not_lt, Int.not_le, gt_iff_lt, ge_iff_le, Bool.not_eq_true', Bool.not_eq_false'] at hb)) | ((with_reducible first | refine s_ret ?_ | refine s_normal ?_); try simp only [x_tup0, x_tup1, x_tup2, x_tup3, x_tup4, x_tup5, and_true, true_and])))
      exact q_retH [.bool true] ⟨⟨x4, 0, _, _, _, qrf, v2, rfl⟩, trivial⟩ ⟨rfl, le_but LY g4 k2⟩
end
end Go.Proofs.Ytbmhdmkmnhaffaa.V
end
section
/- Two disks side by side. -/
set_option linter.unusedVariables false
set_option linter.unusedSimpArgs false
namespace Go.Proofs.Ytbmhdmkmnhaffaa.V
open Go.RowKit Go.ChangeShapes Go.WideShapes
def ownD (b mb : Nat) (us : Value) (c : Nat) : Prop := c = b ∨ c = mb ∨ blkS us = some c
theorem PD.own_some {N : Nat} {I G : GH} {b mb : Nat} {us : Value} {A : AD} (h : PD N I G b mb us A) {c : Nat} (hc : ownD b mb us c) : I c = none ∧ ∃ o, G c = some o := by
  obtain ⟨lb, t, q1, _⟩ := h.cell
  obtain ⟨mo, m, n1, _⟩ := h.now
  obtain ⟨xs, u1, u2⟩ := h.un
  rcases hc with rfl | rfl | hc
  · exact ⟨h.ib, _, q1⟩
  · exact ⟨h.im, _, n1⟩
  · exact u2.none_ hc
/-- Memory that has what a disk needs. -/
theorem PD.at_ {N : Nat} {I G G' : GH} {b mb : Nat} {us : Value} {A : AD} (h : PD N I G b mb us A) (hI : I.le G') (hk : ∀ c o, ownD b mb us c → G c = some o → G' c = some o) : PD N I G' b mb us A := by
  obtain ⟨lb, t, q1, q2⟩ := h.cell
  obtain ⟨mo, m, n1, n2⟩ := h.now
  obtain ⟨xs, u1, u2⟩ := h.un
  exact ⟨hI, h.ib, h.im, h.bm, h.ub, h.um, ⟨lb, t, hk _ _ (.inl rfl) q1, q2⟩, ⟨mo, m, hk _ _ (.inr (.inl rfl)) n1, n2⟩, ⟨xs, u1, u2.keep fun c hc o ho => hk c o (.inr (.inr hc)) ho⟩, h.ok, h.fz⟩
/-- Two disks. -/
structure TwoD (N : Nat) (I G : GH) (b mb : Nat) (us : Value) (A : AD) (b' mb' : Nat) (us' : Value) (B : AD) : Prop where
  p : PD N I G b mb us A
  q : PD N I G b' mb' us' B
  d : ∀ c, ownD b mb us c → ¬ownD b' mb' us' c
section
variable {N M : Nat} {I G : GH} {b mb b' mb' : Nat} {us us' : Value} {A B A' : AD}
theorem TwoD.swap (h : TwoD N I G b mb us A b' mb' us' B) : TwoD N I G b' mb' us' B b mb us A := ⟨h.q, h.p, fun c h1 h2 => h.d c h2 h1⟩
theorem TwoD.up {G' : GH} (h : TwoD N I G b mb us A b' mb' us' B) (hl : G.le G') : TwoD N I G' b mb us A b' mb' us' B := ⟨h.p.up hl, h.q.up hl, h.d⟩
theorem TwoD.mono (h : TwoD N I G b mb us A b' mb' us' B) (hm : N ≤ M) : TwoD M I G b mb us A b' mb' us' B := ⟨h.p.mono hm, h.q.mono hm, h.d⟩
/-- A call on the first one. -/
theorem TwoD.call {f : FuncId} {args : Array Value} {w : Value} (h : TwoD N I G b mb us A b' mb' us' B) (hm : N ≤ M)
    (hc : ∀ G, PD N I G b mb us A → HC Try.prog f args G fun v G' => v = w ∧ ∃ I' m' u', I.le I' ∧ PD M I' G' b m' u' A') :
    HC Try.prog f args G fun v G' => v = w ∧ ∃ I' m' u', I.le I' ∧ TwoD M I' G' b m' u' A' b' mb' us' B := by
  classical
  have hle : GH.le (fun c => if ownD b' mb' us' c then none else G c) G := fun c o ho => by
    by_cases e : ownD b' mb' us' c
    · simp only [if_pos e] at ho; cases ho
    · simp only [if_neg e] at ho; exact ho
  have hp : PD N I (fun c => if ownD b' mb' us' c then none else G c) b mb us A := by
    refine h.p.at_ (fun c o ho => ?_) fun c o hc ho => ?_
    · by_cases e : ownD b' mb' us' c
      · rw [(h.q.own_some e).1] at ho; cases ho
      · simp only [if_neg e]; exact h.p.le _ _ ho
    · simp only [if_neg (h.d c hc)]; exact ho
  refine (HC.frame hle (hc _ hp)).mono ?_
  rintro v H' ⟨G', ⟨rfl, I', m', u', i1, p1⟩, k1, k2⟩
  have kq : ∀ c o, ownD b' mb' us' c → G c = some o → H' c = some o ∧ G' c = none := fun c o hc ho => k2 c o (by simp only [if_pos hc]) ho
  have ni : ∀ c, ownD b' mb' us' c → I' c = none := fun c hc => by
    obtain ⟨_, o, ho⟩ := h.q.own_some hc
    exact le_none p1.le (kq c o hc ho).2
  have q1 : PD N I' H' b' mb' us' B := by
    have hI' : I'.le H' := GH.le_trans p1.le k1
    exact (h.q.at_ (GH.le_trans i1 hI') fun c o hc ho => (kq c o hc ho).1).more i1 hI' (ni _ (.inl rfl)) (ni _ (.inr (.inl rfl))) fun c hc => ni _ (.inr (.inr hc))
  refine ⟨rfl, I', m', u', i1, p1.up k1, q1.mono hm, fun c h1 h2 => ?_⟩
  obtain ⟨_, o, ho⟩ := p1.own_some h1
  obtain ⟨_, o', ho'⟩ := h.q.own_some h2
  rw [(kq c o' h2 ho').2] at ho
  cases ho
/-- A copy and what it was taken from. -/
theorem two_copy {v : Value} {G' : GH} (h : PD N I G b mb us A) (hc : Cop N I G A v G') : ∃ b' mb' us' I', v = pt b' ∧ I.le I' ∧ TwoD N I' G' b mb us A b' mb' us' A := by
  obtain ⟨l, b', m', u', I', rfl, n1, n2, n3, i1, i2, p⟩ := hc
  have ni : ∀ c, ownD b mb us c → I' c = none := fun c hc => by
    obtain ⟨e1, o, e2⟩ := h.own_some hc
    cases hi : I' c with
    | none => rfl
    | some o' => rcases i2 c (by rw [hi]; simp) with e | e
                 · exact absurd e1 e
                 · rw [e] at e2; cases e2
  refine ⟨b', m', u', I', rfl, i1, (h.up l).more i1 p.le (ni _ (.inl rfl)) (ni _ (.inr (.inl rfl))) fun c hc => ni _ (.inr (.inr hc)), p, fun c h1 h2 => ?_⟩
  obtain ⟨_, o, ho⟩ := h.own_some h1
  rcases h2 with rfl | rfl | h2
  · rw [n1] at ho; cases ho
  · rw [n2] at ho; cases ho
  · rw [n3 c h2] at ho; cases ho
end
end Go.Proofs.Ytbmhdmkmnhaffaa.V
end
section
/- Acts that come in; acts without a fuse. -/
set_option linter.unusedVariables false
set_option linter.unusedSimpArgs false
namespace Go.Proofs.Ytbmhdmkmnhaffaa.V
open Go.RowKit Go.ChangeShapes Go.WideShapes
/-- The power is on, and stays. -/
def AD.calm (A : AD) : Prop := A.fuse = none ∧ A.gone = false
theorem AD.calm_does {A : AD} (h : A.calm) (u : AU) : (A.does u).calm ∧ (A.does u).err = 0 := by
  obtain ⟨hf, hg⟩ := h
  have hb : A.burnt u.many = A := by unfold AD.burnt; rw [hf]
  have hd : (A.does u).fuse = none ∧ (A.does u).gone = false := by
    unfold AD.does
    dsimp only
    rw [hb]
    split
    · exact ⟨hf, hg⟩
    · exact ⟨hf, hg⟩
  exact ⟨hd, by unfold AD.err; rw [hd.2]; rfl⟩
theorem AD.calm_act {A : AD} (h : A.calm) (a : Act) : (A.act a).1.calm ∧ ((A.act a).2 ≠ 0 → (A.act a).1 = A) := by
  unfold AD.act
  split
  · unfold AD.append
    split
    · exact ⟨(AD.calm_does h _).1, fun e => absurd (AD.calm_does h _).2 e⟩
    · exact ⟨h, fun _ => rfl⟩
  · split
    · unfold AD.replace
      split
      · exact ⟨(AD.calm_does h _).1, fun e => absurd (AD.calm_does h _).2 e⟩
      · exact ⟨h, fun _ => rfl⟩
    · split
      · unfold AD.remove
        split
        · exact ⟨(AD.calm_does h _).1, fun e => absurd (AD.calm_does h _).2 e⟩
        · exact ⟨h, fun _ => rfl⟩
      · split
        · unfold AD.cut
          split
          · exact ⟨(AD.calm_does h _).1, fun e => absurd (AD.calm_does h _).2 e⟩
          · exact ⟨h, fun _ => rfl⟩
        · exact ⟨h, fun _ => rfl⟩
/-- Acts, one behind the other. -/
def AD.acts (A : AD) : List Act → AD
  | [] => A
  | a :: l => (A.act a).1.acts l
theorem AD.acts_snoc {a : Act} : ∀ {l : List Act} {A : AD}, A.acts (l ++ [a]) = ((A.acts l).act a).1
  | [], _ => rfl
  | b :: l, A => AD.acts_snoc (l := l)
theorem AD.calm_acts : ∀ {l : List Act} {A : AD}, A.calm → (A.acts l).calm
  | [], _, h => h
  | a :: l, A, h => AD.calm_acts (l := l) (A := (A.act a).1) (AD.calm_act h a).1
/-- A row of acts. -/
structure ActsV (G : GH) (u : Value) (ls : List Act) : Prop where
  len : lenS u = ls.length
  row : ∃ xs, Sl 5 G u xs ∧ ∀ i (h : i < ls.length), ∃ w, (xs.drop (i * 5)).take 5 = (ac ls[i].kind ls[i].n ls[i].s ls[i].s' w).toList ∧ By G w ls[i].bs
  ok : ∀ a ∈ ls, a.Ok
theorem ActsV.le {G G' : GH} {u : Value} {ls : List Act} (h : ActsV G u ls) (hl : G.le G') : ActsV G' u ls := by
  obtain ⟨h1, ⟨xs, h2, h3⟩, h4⟩ := h
  exact ⟨h1, ⟨xs, h2.le hl, fun i hi => let ⟨w, e, k⟩ := h3 i hi; ⟨w, e, Sl.le k hl⟩⟩, h4⟩
theorem ActsV.at_ {G : GH} {u : Value} {ls : List Act} (h : ActsV G u ls) {i : Nat} (hi : i < ls.length) : ∃ b q w, pureV (.iptrS 5) [u, .int .i64 (i : Int)] = some (.pointer (some ⟨b, q, none⟩)) ∧ PtR G (.pointer (some ⟨b, q, none⟩)) 5 true (.agg (ac ls[i].kind ls[i].n ls[i].s ls[i].s' w)) ∧ By G w ls[i].bs := by
  obtain ⟨xs, h2, h3⟩ := h.row
  obtain ⟨w, e, k⟩ := h3 i hi
  have hl := h.len
  obtain ⟨b0, q0, cs0, e0, fr0, m1, m2, m3, m4⟩ := h2.idxA (k := .i64) (j := (i : Int)) (by omega) (by omega) (by decide)
  rw [Int.toNat_natCast, e] at m4
  refine ⟨b0, q0, w, m1, ⟨_, _, _, _, _, rfl, m2, ?_⟩, k⟩
  show (if q0 + 5 ≤ cs0.size then some (Value.agg (cs0.extract q0 (q0 + 5))) else none) = _
  rw [if_pos m3]
  congr 2
  apply Array.ext'
  rw [m4]
/-- What was synced is there behind any crash. -/
theorem AD.calm_sync {A : AD} (h : A.calm) : A.sync = ({ A with lasts := A.now, units := [] }, 0) := by
  obtain ⟨room, now, lasts, units, fuse, gone⟩ := A
  obtain ⟨hf, hg⟩ := h
  dsimp only at hf hg
  subst hf hg
  rfl
theorem AD.crash_nil {A : AD} (h : A.units = []) (keep : Int) : (A.crash keep).2 = 0 ∧ (A.crash keep).1.now = A.lasts ∧ (A.crash keep).1.gone = false := by
  unfold AD.crash
  rw [h]
  refine ⟨?_, rfl, rfl⟩
  show (max 0 (min keep (sumU [] : Int))).toNat = 0
  simp only [sumU]
  omega
end Go.Proofs.Ytbmhdmkmnhaffaa.V
end
section
/- DiskSynced: what was synced is there behind any crash. -/
set_option linter.unusedVariables false
set_option linter.unusedSimpArgs false
-- @pre g_hload s_hbx s_d0 s_d1 s_d2 s_d3 s_d4 s_d5 s_d6
-- @extra s_nilPf s_nilPt s_nilNf s_nilNt s_nilck s_fptr0 s_seq0 s_lenSB
namespace Go.Proofs.Ytbmhdmkmnhaffaa.V
open Go.RowKit Go.ChangeShapes Go.WideShapes
theorem Left.three {M : Nat} {I G' : GH} {b mb : Nat} {r : AD × Int} {v : Value} (h : Left M I b mb r v G') : v = .int .i64 r.2 ∧ ∃ I' m' u', I.le I' ∧ PD M I' G' b m' u' r.1 := by
  obtain ⟨h1, I', us', h2, h3⟩ := h
  exact ⟨h1, I', mb, us', h2, h3⟩
theorem usedW {N W : Nat} {I G H : GH} {b mb : Nat} {us : Value} {A : AD} (h : PD N I G b mb us A) (hN : N ≤ 1000000) (hl : G.le H) (e : A.used = W) : HC Try.prog 19 #[pt b] H fun v G' => v = .int .i64 W ∧ H.le G' := by
  rw [← e]
  exact usedP (h.up hl) hN
theorem lawSynced (u : Value) (ls : List Act) (a : Act) (wa : Option Addr) (wl wc : Nat) (room keep : Int) (G : GH) (hu : ActsV G u ls) (ha : a.Ok) (hw : By G (.slice wa wl wc) a.bs) (hk1 : -9223372036854775808 ≤ keep) (hk2 : keep ≤ 9223372036854775807) :
    HC Try.prog 5 #[u, .agg (ac a.kind a.n a.s a.s' (.slice wa wl wc)), .int .i64 room, .int .i64 keep] G fun v G' => v = .bool true ∧ G.le G' := by
  have hul := hu.len
  obtain ⟨xs, hxs, _⟩ := hu.row
  have hlm := hxs.len_le
  obtain ⟨ua, ul, uc, rfl⟩ := hxs.shape
  have hull : ul = ls.length := hul
  subst hull
  simp only [lenS] at hlm
  refine HC.start comp5 rfl ?_; unfold pc5
  (repeat' (first | (with_reducible refine i_ops ?_; first | (refine g_mv ?_; refine s_mv ?_) | refine o_nil ?_ | (refine g_some ?_; first | refine s_g_t ?_ | refine s_g_f ?_ | refine s_g_f' ?_ | refine s_g_u ?_) | (refine g_pick ?_; first | refine s_pick_t ?_ | refine s_pick_f ?_) | (refine g_len ?_; first | refine s_lenB ?_ | refine s_pure ?_) | (refine g_idx ?_; first | (refine s_idxOB ?_; intro p hp hpw) | (refine s_idxB ?_; intro p hp)) | (refine g_pure ?_; first | refine s_nilPf ?_ | refine s_nilPt ?_ | refine s_nilNf ?_ | refine s_nilNt ?_ | refine s_nilck ?_ | refine s_fptr0 ?_ | refine s_seq0 ?_ | refine s_lenSB ?_ | refine s_pure ?_ | refine s_saddB ?_) | (refine g_lload ?_; refine s_lload ?_) | (refine g_lbox ?_; refine s_lbox ?_) | (refine g_hload ?_; first | refine s_hbx ?_ | refine s_d0 ?_ | refine s_d1 ?_ | refine s_d2 ?_ | refine s_d3 ?_ | refine s_d4 ?_ | refine s_d5 ?_ | refine s_d6 ?_ | refine s_hloadP ?_)) | (with_reducible refine i_vc ?_; first | refine v_seq ?_ | refine v_ops ?_ | (refine g_cond ?_; first | refine s_cond_t ?_ | refine s_cond_f ?_) | refine v_block ?_ | refine v_skip ?_ | refine v_exit ?_ | refine v_ret ?_) | (with_reducible first | refine n_then ?_ | refine r_then ?_ | refine e_then ?_ | refine n_block ?_ | refine r_block ?_ | refine e_block_eq qrf ?_ | refine e_block_ne qrf ?_) | ((with_reducible first | refine s_g_c ?_ ?_ | refine s_cond_c ?_ ?_) <;> intro hb <;> rw [hb] <;> (try simp only [decide_eq_true_eq, decide_eq_false_iff_not, beq_iff_eq, bne_iff_ne, beq_eq_false_iff_ne, bne_eq_false_iff_eq, ne_eq, Int.not_lt, Int.not_le, gt_iff_lt, ge_iff_le, Bool.not_eq_true', Bool.not_eq_false'] at hb)) | ((with_reducible first | refine s_ret ?_ | refine s_normal ?_); try simp only [x_tup0, x_tup1, x_tup2, x_tup3, x_tup4, x_tup5, and_true, true_and])))
  refine o_callc qrf (newP 1048576 G (by decide)) ?_
  rintro _ G1 ⟨b, mb, I1, rfl, l1, nb, nmb, p1⟩
  (repeat' (first | (with_reducible refine i_ops ?_; first | (refine g_mv ?_; refine s_mv ?_) | refine o_nil ?_ | (refine g_some ?_; first | refine s_g_t ?_ | refine s_g_f ?_ | refine s_g_f' ?_ | refine s_g_u ?_) | (refine g_pick ?_; first | refine s_pick_t ?_ | refine s_pick_f ?_) | (refine g_len ?_; first | refine s_lenB ?_ | refine s_pure ?_) | (refine g_idx ?_; first | (refine s_idxOB ?_; intro p hp hpw) | (refine s_idxB ?_; intro p hp)) | (refine g_pure ?_; first | refine s_nilPf ?_ | refine s_nilPt ?_ | refine s_nilNf ?_ | refine s_nilNt ?_ | refine s_nilck ?_ | refine s_fptr0 ?_ | refine s_seq0 ?_ | refine s_lenSB ?_ | refine s_pure ?_ | refine s_saddB ?_) | (refine g_lload ?_; refine s_lload ?_) | (refine g_lbox ?_; refine s_lbox ?_) | (refine g_hload ?_; first | refine s_hbx ?_ | refine s_d0 ?_ | refine s_d1 ?_ | refine s_d2 ?_ | refine s_d3 ?_ | refine s_d4 ?_ | refine s_d5 ?_ | refine s_d6 ?_ | refine s_hloadP ?_)) | (with_reducible refine i_vc ?_; first | refine v_seq ?_ | refine v_ops ?_ | (refine g_cond ?_; first | refine s_cond_t ?_ | refine s_cond_f ?_) | refine v_block ?_ | refine v_skip ?_ | refine v_exit ?_ | refine v_ret ?_) | (with_reducible first | refine n_then ?_ | refine r_then ?_ | refine e_then ?_ | refine n_block ?_ | refine r_block ?_ | refine e_block_eq qrf ?_ | refine e_block_ne qrf ?_) | ((with_reducible first | refine s_g_c ?_ ?_ | refine s_cond_c ?_ ?_) <;> intro hb <;> rw [hb] <;> (try simp only [decide_eq_true_eq, decide_eq_false_iff_not, beq_iff_eq, bne_iff_ne, beq_eq_false_iff_ne, bne_eq_false_iff_eq, ne_eq, Int.not_lt, Int.not_le, gt_iff_lt, ge_iff_le, Bool.not_eq_true', Bool.not_eq_false'] at hb)) | ((with_reducible first | refine s_ret ?_ | refine s_normal ?_); try simp only [x_tup0, x_tup1, x_tup2, x_tup3, x_tup4, x_tup5, and_true, true_and])))
  refine v_loopX (α := Nat × GH × GH × Nat × Value) (fun q => q.1 ≤ ls.length ∧ q.1 ≤ 60 ∧ G.le q.2.1 ∧ PD q.1 q.2.1 q.2.2.1 b q.2.2.2.1 q.2.2.2.2 ((AD.new 1048576).acts (ls.take q.1))) (fun q => [(0, .slice ua ls.length uc), (2, .int .i64 room), (3, .int .i64 keep), (5, .int .u64 0), (9, pt b), (11, .int .i64 q.1)]) (fun _ => [(5, ac a.kind a.n a.s a.s' (.slice wa wl wc))]) (fun q => q.2.2.1) (fun q => ls.length - q.1) (0, I1, G1, mb, .slice none 0 0)
    ⟨Nat.zero_le _, Nat.zero_le _, l1, p1⟩ qhs qhl rfl ?_
  rintro ⟨i, I, H, mb, us⟩ sl ll ⟨j1, j2, j3, p⟩
  dsimp only at j1 j2 j3 p
  dsimp only [SL.sets, AL.sets]
  have hup := hu.le (GH.le_trans j3 p.le)
  (repeat' (first | (with_reducible refine i_ops ?_; first | (refine g_mv ?_; refine s_mv ?_) | refine o_nil ?_ | (refine g_some ?_; first | refine s_g_t ?_ | refine s_g_f ?_ | refine s_g_f' ?_ | refine s_g_u ?_) | (refine g_pick ?_; first | refine s_pick_t ?_ | refine s_pick_f ?_) | (refine g_len ?_; first | refine s_lenB ?_ | refine s_pure ?_) | (refine g_idx ?_; first | (refine s_idxOB ?_; intro p hp hpw) | (refine s_idxB ?_; intro p hp)) | (refine g_pure ?_; first | refine s_nilPf ?_ | refine s_nilPt ?_ | refine s_nilNf ?_ | refine s_nilNt ?_ | refine s_nilck ?_ | refine s_fptr0 ?_ | refine s_seq0 ?_ | refine s_lenSB ?_ | refine s_pure ?_ | refine s_saddB ?_) | (refine g_lload ?_; refine s_lload ?_) | (refine g_lbox ?_; refine s_lbox ?_) | (refine g_hload ?_; first | refine s_hbx ?_ | refine s_d0 ?_ | refine s_d1 ?_ | refine s_d2 ?_ | refine s_d3 ?_ | refine s_d4 ?_ | refine s_d5 ?_ | refine s_d6 ?_ | refine s_hloadP ?_)) | (with_reducible refine i_vc ?_; first | refine v_seq ?_ | refine v_ops ?_ | (refine g_cond ?_; first | refine s_cond_t ?_ | refine s_cond_f ?_) | refine v_block ?_ | refine v_skip ?_ | refine v_exit ?_ | refine v_ret ?_) | (with_reducible first | refine n_then ?_ | refine r_then ?_ | refine e_then ?_ | refine n_block ?_ | refine r_block ?_ | refine e_block_eq qrf ?_ | refine e_block_ne qrf ?_) | ((with_reducible first | refine s_g_c ?_ ?_ | refine s_cond_c ?_ ?_) <;> intro hb <;> rw [hb] <;> (try simp only [decide_eq_true_eq, decide_eq_false_iff_not, beq_iff_eq, bne_iff_ne, beq_eq_false_iff_ne, bne_eq_false_iff_eq, ne_eq, Int.not_lt, Int.not_le, gt_iff_lt, ge_iff_le, Bool.not_eq_true', Bool.not_eq_false'] at hb)) | ((with_reducible first | refine s_ret ?_ | refine s_normal ?_); try simp only [x_tup0, x_tup1, x_tup2, x_tup3, x_tup4, x_tup5, and_true, true_and])))
  · have hi : i < ls.length := by omega
    obtain ⟨bq, q, w, y1, y2, y3⟩ := hup.at_ hi
    obtain ⟨a1, a2, a3, rfl⟩ := y3.shape
    have c1 := actP p (by omega) ls[i] (hu.ok _ (List.getElem_mem hi)) _ y3
    refine o_pure (vs := [.slice ua ls.length uc, .int .i64 i]) qrf y1 ?_
    (repeat' (first | (with_reducible refine i_ops ?_; first | (refine g_mv ?_; refine s_mv ?_) | refine o_nil ?_ | (refine g_some ?_; first | refine s_g_t ?_ | refine s_g_f ?_ | refine s_g_f' ?_ | refine s_g_u ?_) | (refine g_pick ?_; first | refine s_pick_t ?_ | refine s_pick_f ?_) | (refine g_len ?_; first | refine s_lenB ?_ | refine s_pure ?_) | (refine g_idx ?_; first | (refine s_idxOB ?_; intro p hp hpw) | (refine s_idxB ?_; intro p hp)) | (refine g_pure ?_; first | refine s_nilPf ?_ | refine s_nilPt ?_ | refine s_nilNf ?_ | refine s_nilNt ?_ | refine s_nilck ?_ | refine s_fptr0 ?_ | refine s_seq0 ?_ | refine s_lenSB ?_ | refine s_pure ?_ | refine s_saddB ?_) | (refine g_lload ?_; refine s_lload ?_) | (refine g_lbox ?_; refine s_lbox ?_) | (refine g_hload ?_; first | refine s_hbx ?_ | refine s_d0 ?_ | refine s_d1 ?_ | refine s_d2 ?_ | refine s_d3 ?_ | refine s_d4 ?_ | refine s_d5 ?_ | refine s_d6 ?_ | refine s_hloadP ?_)) | (with_reducible refine i_vc ?_; first | refine v_seq ?_ | refine v_ops ?_ | (refine g_cond ?_; first | refine s_cond_t ?_ | refine s_cond_f ?_) | refine v_block ?_ | refine v_skip ?_ | refine v_exit ?_ | refine v_ret ?_) | (with_reducible first | refine n_then ?_ | refine r_then ?_ | refine e_then ?_ | refine n_block ?_ | refine r_block ?_ | refine e_block_eq qrf ?_ | refine e_block_ne qrf ?_) | ((with_reducible first | refine s_g_c ?_ ?_ | refine s_cond_c ?_ ?_) <;> intro hb <;> rw [hb] <;> (try simp only [decide_eq_true_eq, decide_eq_false_iff_not, beq_iff_eq, bne_iff_ne, beq_eq_false_iff_ne, bne_eq_false_iff_eq, ne_eq, Int.not_lt, Int.not_le, gt_iff_lt, ge_iff_le, Bool.not_eq_true', Bool.not_eq_false'] at hb)) | ((with_reducible first | refine s_ret ?_ | refine s_normal ?_); try simp only [x_tup0, x_tup1, x_tup2, x_tup3, x_tup4, x_tup5, and_true, true_and])))
    refine o_callc qrf c1 ?_
    rintro _ H2 ⟨rfl, I2, us2, l2, p2⟩
    (repeat' (first | (with_reducible refine i_ops ?_; first | (refine g_mv ?_; refine s_mv ?_) | refine o_nil ?_ | (refine g_some ?_; first | refine s_g_t ?_ | refine s_g_f ?_ | refine s_g_f' ?_ | refine s_g_u ?_) | (refine g_pick ?_; first | refine s_pick_t ?_ | refine s_pick_f ?_) | (refine g_len ?_; first | refine s_lenB ?_ | refine s_pure ?_) | (refine g_idx ?_; first | (refine s_idxOB ?_; intro p hp hpw) | (refine s_idxB ?_; intro p hp)) | (refine g_pure ?_; first | refine s_nilPf ?_ | refine s_nilPt ?_ | refine s_nilNf ?_ | refine s_nilNt ?_ | refine s_nilck ?_ | refine s_fptr0 ?_ | refine s_seq0 ?_ | refine s_lenSB ?_ | refine s_pure ?_ | refine s_saddB ?_) | (refine g_lload ?_; refine s_lload ?_) | (refine g_lbox ?_; refine s_lbox ?_) | (refine g_hload ?_; first | refine s_hbx ?_ | refine s_d0 ?_ | refine s_d1 ?_ | refine s_d2 ?_ | refine s_d3 ?_ | refine s_d4 ?_ | refine s_d5 ?_ | refine s_d6 ?_ | refine s_hloadP ?_)) | (with_reducible refine i_vc ?_; first | refine v_seq ?_ | refine v_ops ?_ | (refine g_cond ?_; first | refine s_cond_t ?_ | refine s_cond_f ?_) | refine v_block ?_ | refine v_skip ?_ | refine v_exit ?_ | refine v_ret ?_) | (with_reducible first | refine n_then ?_ | refine r_then ?_ | refine e_then ?_ | refine n_block ?_ | refine r_block ?_ | refine e_block_eq qrf ?_ | refine e_block_ne qrf ?_) | ((with_reducible first | refine s_g_c ?_ ?_ | refine s_cond_c ?_ ?_) <;> intro hb <;> rw [hb] <;> (try simp only [decide_eq_true_eq, decide_eq_false_iff_not, beq_iff_eq, bne_iff_ne, beq_eq_false_iff_ne, bne_eq_false_iff_eq, ne_eq, Int.not_lt, Int.not_le, gt_iff_lt, ge_iff_le, Bool.not_eq_true', Bool.not_eq_false'] at hb)) | ((with_reducible first | refine s_ret ?_ | refine s_normal ?_); try simp only [x_tup0, x_tup1, x_tup2, x_tup3, x_tup4, x_tup5, and_true, true_and])))
    refine ⟨ls.length - (i + 1), by omega, (i + 1, I2, H2, mb, us2), rfl, ⟨hi, by dsimp only; omega, GH.le_trans j3 l2, ?_⟩, qhs, qhl, rfl⟩
    rw [List.take_succ_eq_append_getElem hi, AD.acts_snoc]
    exact p2
  all_goals
    generalize hA0 : (AD.new 1048576).acts (ls.take i) = A0 at p
    have hc0 : A0.calm := by rw [← hA0]; exact AD.calm_acts ⟨rfl, rfl⟩
    refine o_callc qrf (resizeP p room) ?_
    rintro _ H2 ⟨rfl, I2, us2, l2, p2⟩
    have hc1 : (A0.resize room).1.calm := by
      unfold AD.resize
      split <;> exact hc0
    generalize (A0.resize room).1 = A1 at p2 hc1
    (repeat' (first | (with_reducible refine i_ops ?_; first | (refine g_mv ?_; refine s_mv ?_) | refine o_nil ?_ | (refine g_some ?_; first | refine s_g_t ?_ | refine s_g_f ?_ | refine s_g_f' ?_ | refine s_g_u ?_) | (refine g_pick ?_; first | refine s_pick_t ?_ | refine s_pick_f ?_) | (refine g_len ?_; first | refine s_lenB ?_ | refine s_pure ?_) | (refine g_idx ?_; first | (refine s_idxOB ?_; intro p hp hpw) | (refine s_idxB ?_; intro p hp)) | (refine g_pure ?_; first | refine s_nilPf ?_ | refine s_nilPt ?_ | refine s_nilNf ?_ | refine s_nilNt ?_ | refine s_nilck ?_ | refine s_fptr0 ?_ | refine s_seq0 ?_ | refine s_lenSB ?_ | refine s_pure ?_ | refine s_saddB ?_) | (refine g_lload ?_; refine s_lload ?_) | (refine g_lbox ?_; refine s_lbox ?_) | (refine g_hload ?_; first | refine s_hbx ?_ | refine s_d0 ?_ | refine s_d1 ?_ | refine s_d2 ?_ | refine s_d3 ?_ | refine s_d4 ?_ | refine s_d5 ?_ | refine s_d6 ?_ | refine s_hloadP ?_)) | (with_reducible refine i_vc ?_; first | refine v_seq ?_ | refine v_ops ?_ | (refine g_cond ?_; first | refine s_cond_t ?_ | refine s_cond_f ?_) | refine v_block ?_ | refine v_skip ?_ | refine v_exit ?_ | refine v_ret ?_) | (with_reducible first | refine n_then ?_ | refine r_then ?_ | refine e_then ?_ | refine n_block ?_ | refine r_block ?_ | refine e_block_eq qrf ?_ | refine e_block_ne qrf ?_) | ((with_reducible first | refine s_g_c ?_ ?_ | refine s_cond_c ?_ ?_) <;> intro hb <;> rw [hb] <;> (try simp only [decide_eq_true_eq, decide_eq_false_iff_not, beq_iff_eq, bne_iff_ne, beq_eq_false_iff_ne, bne_eq_false_iff_eq, ne_eq, Int.not_lt, Int.not_le, gt_iff_lt, ge_iff_le, Bool.not_eq_true', Bool.not_eq_false'] at hb)) | ((with_reducible first | refine s_ret ?_ | refine s_normal ?_); try simp only [x_tup0, x_tup1, x_tup2, x_tup3, x_tup4, x_tup5, and_true, true_and])))
    refine o_callc qrf (copyP p2 (by omega)) ?_
    intro v H3 hcop
    obtain ⟨b', mb', us', I3, rfl, l3, T⟩ := two_copy p2 hcop
    have hw3 : By I3 (.slice wa wl wc) a.bs := Sl.le hw (GH.le_trans j3 (GH.le_trans l2 l3))
    (repeat' (first | (with_reducible refine i_ops ?_; first | (refine g_mv ?_; refine s_mv ?_) | refine o_nil ?_ | (refine g_some ?_; first | refine s_g_t ?_ | refine s_g_f ?_ | refine s_g_f' ?_ | refine s_g_u ?_) | (refine g_pick ?_; first | refine s_pick_t ?_ | refine s_pick_f ?_) | (refine g_len ?_; first | refine s_lenB ?_ | refine s_pure ?_) | (refine g_idx ?_; first | (refine s_idxOB ?_; intro p hp hpw) | (refine s_idxB ?_; intro p hp)) | (refine g_pure ?_; first | refine s_nilPf ?_ | refine s_nilPt ?_ | refine s_nilNf ?_ | refine s_nilNt ?_ | refine s_nilck ?_ | refine s_fptr0 ?_ | refine s_seq0 ?_ | refine s_lenSB ?_ | refine s_pure ?_ | refine s_saddB ?_) | (refine g_lload ?_; refine s_lload ?_) | (refine g_lbox ?_; refine s_lbox ?_) | (refine g_hload ?_; first | refine s_hbx ?_ | refine s_d0 ?_ | refine s_d1 ?_ | refine s_d2 ?_ | refine s_d3 ?_ | refine s_d4 ?_ | refine s_d5 ?_ | refine s_d6 ?_ | refine s_hloadP ?_)) | (with_reducible refine i_vc ?_; first | refine v_seq ?_ | refine v_ops ?_ | (refine g_cond ?_; first | refine s_cond_t ?_ | refine s_cond_f ?_) | refine v_block ?_ | refine v_skip ?_ | refine v_exit ?_ | refine v_ret ?_) | (with_reducible first | refine n_then ?_ | refine r_then ?_ | refine e_then ?_ | refine n_block ?_ | refine r_block ?_ | refine e_block_eq qrf ?_ | refine e_block_ne qrf ?_) | ((with_reducible first | refine s_g_c ?_ ?_ | refine s_cond_c ?_ ?_) <;> intro hb <;> rw [hb] <;> (try simp only [decide_eq_true_eq, decide_eq_false_iff_not, beq_iff_eq, bne_iff_ne, beq_eq_false_iff_ne, bne_eq_false_iff_eq, ne_eq, Int.not_lt, Int.not_le, gt_iff_lt, ge_iff_le, Bool.not_eq_true', Bool.not_eq_false'] at hb)) | ((with_reducible first | refine s_ret ?_ | refine s_normal ?_); try simp only [x_tup0, x_tup1, x_tup2, x_tup3, x_tup4, x_tup5, and_true, true_and])))
    refine o_callc qrf (T.swap.call (Nat.le_succ i) fun G hp => (actP hp (by omega) a ha _ (Sl.le hw3 hp.le)).mono fun v G' h => h.three) ?_
    rintro _ H4 ⟨rfl, I4, m4, u4, l4, T4⟩
    have hce := AD.calm_act hc1 a
    generalize hr : A1.act a = r at T4 hce
    by_cases e0 : r.2 = 0
    · rw [e0]
      (repeat' (first | (with_reducible refine i_ops ?_; first | (refine g_mv ?_; refine s_mv ?_) | refine o_nil ?_ | (refine g_some ?_; first | refine s_g_t ?_ | refine s_g_f ?_ | refine s_g_f' ?_ | refine s_g_u ?_) | (refine g_pick ?_; first | refine s_pick_t ?_ | refine s_pick_f ?_) | (refine g_len ?_; first | refine s_lenB ?_ | refine s_pure ?_) | (refine g_idx ?_; first | (refine s_idxOB ?_; intro p hp hpw) | (refine s_idxB ?_; intro p hp)) | (refine g_pure ?_; first | refine s_nilPf ?_ | refine s_nilPt ?_ | refine s_nilNf ?_ | refine s_nilNt ?_ | refine s_nilck ?_ | refine s_fptr0 ?_ | refine s_seq0 ?_ | refine s_lenSB ?_ | refine s_pure ?_ | refine s_saddB ?_) | (refine g_lload ?_; refine s_lload ?_) | (refine g_lbox ?_; refine s_lbox ?_) | (refine g_hload ?_; first | refine s_hbx ?_ | refine s_d0 ?_ | refine s_d1 ?_ | refine s_d2 ?_ | refine s_d3 ?_ | refine s_d4 ?_ | refine s_d5 ?_ | refine s_d6 ?_ | refine s_hloadP ?_)) | (with_reducible refine i_vc ?_; first | refine v_seq ?_ | refine v_ops ?_ | (refine g_cond ?_; first | refine s_cond_t ?_ | refine s_cond_f ?_) | refine v_block ?_ | refine v_skip ?_ | refine v_exit ?_ | refine v_ret ?_) | (with_reducible first | refine n_then ?_ | refine r_then ?_ | refine e_then ?_ | refine n_block ?_ | refine r_block ?_ | refine e_block_eq qrf ?_ | refine e_block_ne qrf ?_) | ((with_reducible first | refine s_g_c ?_ ?_ | refine s_cond_c ?_ ?_) <;> intro hb <;> rw [hb] <;> (try simp only [decide_eq_true_eq, decide_eq_false_iff_not, beq_iff_eq, bne_iff_ne, beq_eq_false_iff_ne, bne_eq_false_iff_eq, ne_eq, Int.not_lt, Int.not_le, gt_iff_lt, ge_iff_le, Bool.not_eq_true', Bool.not_eq_false'] at hb)) | ((with_reducible first | refine s_ret ?_ | refine s_normal ?_); try simp only [x_tup0, x_tup1, x_tup2, x_tup3, x_tup4, x_tup5, and_true, true_and])))
      have p9 := T4.q
      have c9 := syncP p9
      rw [AD.calm_sync hc1] at c9
      refine o_callc qrf c9 ?_
      rintro _ H5 ⟨rfl, I5, us5, l5, p5⟩
      dsimp only at p5
      have P5 : HC Try.prog 14 #[pt b] H5 fun v G' => v = .int .i64 0 ∧ G' = H5 := pendingP p5 (by omega)
      (repeat' (first | (with_reducible refine i_ops ?_; first | (refine g_mv ?_; refine s_mv ?_) | refine o_nil ?_ | (refine g_some ?_; first | refine s_g_t ?_ | refine s_g_f ?_ | refine s_g_f' ?_ | refine s_g_u ?_) | (refine g_pick ?_; first | refine s_pick_t ?_ | refine s_pick_f ?_) | (refine g_len ?_; first | refine s_lenB ?_ | refine s_pure ?_) | (refine g_idx ?_; first | (refine s_idxOB ?_; intro p hp hpw) | (refine s_idxB ?_; intro p hp)) | (refine g_pure ?_; first | refine s_nilPf ?_ | refine s_nilPt ?_ | refine s_nilNf ?_ | refine s_nilNt ?_ | refine s_nilck ?_ | refine s_fptr0 ?_ | refine s_seq0 ?_ | refine s_lenSB ?_ | refine s_pure ?_ | refine s_saddB ?_) | (refine g_lload ?_; refine s_lload ?_) | (refine g_lbox ?_; refine s_lbox ?_) | (refine g_hload ?_; first | refine s_hbx ?_ | refine s_d0 ?_ | refine s_d1 ?_ | refine s_d2 ?_ | refine s_d3 ?_ | refine s_d4 ?_ | refine s_d5 ?_ | refine s_d6 ?_ | refine s_hloadP ?_) | refine o_callp qrf (by first | exact P5) ?_ | (refine o_callg qrf (by first | exact P5) ?_; intro G' hle)) | (with_reducible refine i_vc ?_; first | refine v_seq ?_ | refine v_ops ?_ | (refine g_cond ?_; first | refine s_cond_t ?_ | refine s_cond_f ?_) | refine v_block ?_ | refine v_skip ?_ | refine v_exit ?_ | refine v_ret ?_) | (with_reducible first | refine n_then ?_ | refine r_then ?_ | refine e_then ?_ | refine n_block ?_ | refine r_block ?_ | refine e_block_eq qrf ?_ | refine e_block_ne qrf ?_) | ((with_reducible first | refine s_g_c ?_ ?_ | refine s_cond_c ?_ ?_) <;> intro hb <;> rw [hb] <;> (try simp only [decide_eq_true_eq, decide_eq_false_iff_not, beq_iff_eq, bne_iff_ne, beq_eq_false_iff_ne, bne_eq_false_iff_eq, ne_eq, Int.not_lt, Int.not_le, gt_iff_lt, ge_iff_le, Bool.not_eq_true', Bool.not_eq_false'] at hb)) | ((with_reducible first | refine s_ret ?_ | refine s_normal ?_); try simp only [x_tup0, x_tup1, x_tup2, x_tup3, x_tup4, x_tup5, and_true, true_and])))
      refine o_callc qrf (copyP p5 (by omega)) ?_
      intro v H6 hcop2
      obtain ⟨b7, mb7, us7, I7, rfl, l7, T7⟩ := two_copy p5 hcop2
      have hcn := AD.crash_nil (A := { A1 with lasts := A1.now, units := [] }) rfl keep
      (repeat' (first | (with_reducible refine i_ops ?_; first | (refine g_mv ?_; refine s_mv ?_) | refine o_nil ?_ | (refine g_some ?_; first | refine s_g_t ?_ | refine s_g_f ?_ | refine s_g_f' ?_ | refine s_g_u ?_) | (refine g_pick ?_; first | refine s_pick_t ?_ | refine s_pick_f ?_) | (refine g_len ?_; first | refine s_lenB ?_ | refine s_pure ?_) | (refine g_idx ?_; first | (refine s_idxOB ?_; intro p hp hpw) | (refine s_idxB ?_; intro p hp)) | (refine g_pure ?_; first | refine s_nilPf ?_ | refine s_nilPt ?_ | refine s_nilNf ?_ | refine s_nilNt ?_ | refine s_nilck ?_ | refine s_fptr0 ?_ | refine s_seq0 ?_ | refine s_lenSB ?_ | refine s_pure ?_ | refine s_saddB ?_) | (refine g_lload ?_; refine s_lload ?_) | (refine g_lbox ?_; refine s_lbox ?_) | (refine g_hload ?_; first | refine s_hbx ?_ | refine s_d0 ?_ | refine s_d1 ?_ | refine s_d2 ?_ | refine s_d3 ?_ | refine s_d4 ?_ | refine s_d5 ?_ | refine s_d6 ?_ | refine s_hloadP ?_)) | (with_reducible refine i_vc ?_; first | refine v_seq ?_ | refine v_ops ?_ | (refine g_cond ?_; first | refine s_cond_t ?_ | refine s_cond_f ?_) | refine v_block ?_ | refine v_skip ?_ | refine v_exit ?_ | refine v_ret ?_) | (with_reducible first | refine n_then ?_ | refine r_then ?_ | refine e_then ?_ | refine n_block ?_ | refine r_block ?_ | refine e_block_eq qrf ?_ | refine e_block_ne qrf ?_) | ((with_reducible first | refine s_g_c ?_ ?_ | refine s_cond_c ?_ ?_) <;> intro hb <;> rw [hb] <;> (try simp only [decide_eq_true_eq, decide_eq_false_iff_not, beq_iff_eq, bne_iff_ne, beq_eq_false_iff_ne, bne_eq_false_iff_eq, ne_eq, Int.not_lt, Int.not_le, gt_iff_lt, ge_iff_le, Bool.not_eq_true', Bool.not_eq_false'] at hb)) | ((with_reducible first | refine s_ret ?_ | refine s_normal ?_); try simp only [x_tup0, x_tup1, x_tup2, x_tup3, x_tup4, x_tup5, and_true, true_and])))
      refine o_callc qrf (T7.swap.call (w := .int .i64 0) (A' := (AD.crash { A1 with lasts := A1.now, units := [] } keep).1) (Nat.le_refl _) fun G hp => (crashP hp (by omega) keep hk1 hk2).mono fun v G' h => ?_) ?_
      · obtain ⟨h1, I', m', h2, _, h3⟩ := h
        exact ⟨by rw [h1, hcn.1]; rfl, I', m', _, h2, h3⟩
      rintro _ H8 ⟨rfl, I8, m8, u8, l8, T8⟩
      have AL2 := alikeP T8.p T8.q (by omega) (by omega) hcn.2.2 hc1.2 hcn.2.1
      (repeat' (first | (with_reducible refine i_ops ?_; first | (refine g_mv ?_; refine s_mv ?_) | refine o_nil ?_ | (refine g_some ?_; first | refine s_g_t ?_ | refine s_g_f ?_ | refine s_g_f' ?_ | refine s_g_u ?_) | (refine g_pick ?_; first | refine s_pick_t ?_ | refine s_pick_f ?_) | (refine g_len ?_; first | refine s_lenB ?_ | refine s_pure ?_) | (refine g_idx ?_; first | (refine s_idxOB ?_; intro p hp hpw) | (refine s_idxB ?_; intro p hp)) | (refine g_pure ?_; first | refine s_nilPf ?_ | refine s_nilPt ?_ | refine s_nilNf ?_ | refine s_nilNt ?_ | refine s_nilck ?_ | refine s_fptr0 ?_ | refine s_seq0 ?_ | refine s_lenSB ?_ | refine s_pure ?_ | refine s_saddB ?_) | (refine g_lload ?_; refine s_lload ?_) | (refine g_lbox ?_; refine s_lbox ?_) | (refine g_hload ?_; first | refine s_hbx ?_ | refine s_d0 ?_ | refine s_d1 ?_ | refine s_d2 ?_ | refine s_d3 ?_ | refine s_d4 ?_ | refine s_d5 ?_ | refine s_d6 ?_ | refine s_hloadP ?_) | refine o_callp qrf (by first | exact AL2) ?_ | (refine o_callg qrf (by first | exact AL2) ?_; intro G' hle)) | (with_reducible refine i_vc ?_; first | refine v_seq ?_ | refine v_ops ?_ | (refine g_cond ?_; first | refine s_cond_t ?_ | refine s_cond_f ?_) | refine v_block ?_ | refine v_skip ?_ | refine v_exit ?_ | refine v_ret ?_) | (with_reducible first | refine n_then ?_ | refine r_then ?_ | refine e_then ?_ | refine n_block ?_ | refine r_block ?_ | refine e_block_eq qrf ?_ | refine e_block_ne qrf ?_) | ((with_reducible first | refine s_g_c ?_ ?_ | refine s_cond_c ?_ ?_) <;> intro hb <;> rw [hb] <;> (try simp only [decide_eq_true_eq, decide_eq_false_iff_not, beq_iff_eq, bne_iff_ne, beq_eq_false_iff_ne, bne_eq_false_iff_eq, ne_eq, Int.not_lt, Int.not_le, gt_iff_lt, ge_iff_le, Bool.not_eq_true', Bool.not_eq_false'] at hb)) | ((with_reducible first | refine s_ret ?_ | refine s_normal ?_); try simp only [x_tup0, x_tup1, x_tup2, x_tup3, x_tup4, x_tup5, and_true, true_and])))
      refine o_callc qrf (usedW (W := usF A1.now) T8.p (by omega) (by assumption) (congrArg usF hcn.2.1)) ?_
      rintro _ H9 ⟨rfl, l9⟩
      (repeat' (first | (with_reducible refine i_ops ?_; first | (refine g_mv ?_; refine s_mv ?_) | refine o_nil ?_ | (refine g_some ?_; first | refine s_g_t ?_ | refine s_g_f ?_ | refine s_g_f' ?_ | refine s_g_u ?_) | (refine g_pick ?_; first | refine s_pick_t ?_ | refine s_pick_f ?_) | (refine g_len ?_; first | refine s_lenB ?_ | refine s_pure ?_) | (refine g_idx ?_; first | (refine s_idxOB ?_; intro p hp hpw) | (refine s_idxB ?_; intro p hp)) | (refine g_pure ?_; first | refine s_nilPf ?_ | refine s_nilPt ?_ | refine s_nilNf ?_ | refine s_nilNt ?_ | refine s_nilck ?_ | refine s_fptr0 ?_ | refine s_seq0 ?_ | refine s_lenSB ?_ | refine s_pure ?_ | refine s_saddB ?_) | (refine g_lload ?_; refine s_lload ?_) | (refine g_lbox ?_; refine s_lbox ?_) | (refine g_hload ?_; first | refine s_hbx ?_ | refine s_d0 ?_ | refine s_d1 ?_ | refine s_d2 ?_ | refine s_d3 ?_ | refine s_d4 ?_ | refine s_d5 ?_ | refine s_d6 ?_ | refine s_hloadP ?_)) | (with_reducible refine i_vc ?_; first | refine v_seq ?_ | refine v_ops ?_ | (refine g_cond ?_; first | refine s_cond_t ?_ | refine s_cond_f ?_) | refine v_block ?_ | refine v_skip ?_ | refine v_exit ?_ | refine v_ret ?_) | (with_reducible first | refine n_then ?_ | refine r_then ?_ | refine e_then ?_ | refine n_block ?_ | refine r_block ?_ | refine e_block_eq qrf ?_ | refine e_block_ne qrf ?_) | ((with_reducible first | refine s_g_c ?_ ?_ | refine s_cond_c ?_ ?_) <;> intro hb <;> rw [hb] <;> (try simp only [decide_eq_true_eq, decide_eq_false_iff_not, beq_iff_eq, bne_iff_ne, beq_eq_false_iff_ne, bne_eq_false_iff_eq, ne_eq, Int.not_lt, Int.not_le, gt_iff_lt, ge_iff_le, Bool.not_eq_true', Bool.not_eq_false'] at hb)) | ((with_reducible first | refine s_ret ?_ | refine s_normal ?_); try simp only [x_tup0, x_tup1, x_tup2, x_tup3, x_tup4, x_tup5, and_true, true_and])))
      refine o_callc qrf (usedW (W := usF A1.now) T8.q (by omega) (GH.le_trans (by assumption) l9) rfl) ?_
      rintro _ H10 ⟨rfl, l10⟩
      (repeat' (first | (with_reducible refine i_ops ?_; first | (refine g_mv ?_; refine s_mv ?_) | refine o_nil ?_ | (refine g_some ?_; first | refine s_g_t ?_ | refine s_g_f ?_ | refine s_g_f' ?_ | refine s_g_u ?_) | (refine g_pick ?_; first | refine s_pick_t ?_ | refine s_pick_f ?_) | (refine g_len ?_; first | refine s_lenB ?_ | refine s_pure ?_) | (refine g_idx ?_; first | (refine s_idxOB ?_; intro p hp hpw) | (refine s_idxB ?_; intro p hp)) | (refine g_pure ?_; first | refine s_nilPf ?_ | refine s_nilPt ?_ | refine s_nilNf ?_ | refine s_nilNt ?_ | refine s_nilck ?_ | refine s_fptr0 ?_ | refine s_seq0 ?_ | refine s_lenSB ?_ | refine s_pure ?_ | refine s_saddB ?_) | (refine g_lload ?_; refine s_lload ?_) | (refine g_lbox ?_; refine s_lbox ?_) | (refine g_hload ?_; first | refine s_hbx ?_ | refine s_d0 ?_ | refine s_d1 ?_ | refine s_d2 ?_ | refine s_d3 ?_ | refine s_d4 ?_ | refine s_d5 ?_ | refine s_d6 ?_ | refine s_hloadP ?_)) | (with_reducible refine i_vc ?_; first | refine v_seq ?_ | refine v_ops ?_ | (refine g_cond ?_; first | refine s_cond_t ?_ | refine s_cond_f ?_) | refine v_block ?_ | refine v_skip ?_ | refine v_exit ?_ | refine v_ret ?_) | (with_reducible first | refine n_then ?_ | refine r_then ?_ | refine e_then ?_ | refine n_block ?_ | refine r_block ?_ | refine e_block_eq qrf ?_ | refine e_block_ne qrf ?_) | ((with_reducible first | refine s_g_c ?_ ?_ | refine s_cond_c ?_ ?_) <;> intro hb <;> rw [hb] <;> (try simp only [decide_eq_true_eq, decide_eq_false_iff_not, beq_iff_eq, bne_iff_ne, beq_eq_false_iff_ne, bne_eq_false_iff_eq, ne_eq, Int.not_lt, Int.not_le, gt_iff_lt, ge_iff_le, Bool.not_eq_true', Bool.not_eq_false'] at hb)) | ((with_reducible first | refine s_ret ?_ | refine s_normal ?_); try simp only [x_tup0, x_tup1, x_tup2, x_tup3, x_tup4, x_tup5, and_true, true_and])))
      have ll1 := GH.le_trans j3 (GH.le_trans l2 (GH.le_trans l3 (GH.le_trans l4 (GH.le_trans l5 (GH.le_trans l7 (GH.le_trans l8 T8.p.le))))))
      exact GH.le_trans ll1 (GH.le_trans (by assumption) (GH.le_trans l9 l10))
    · have er := hce.2 e0
      have P1 := pendingP T4.p (by omega)
      have P2 := pendingP T4.q (by omega)
      rw [er] at P1
      have AL := alikeP T4.p T4.q (by omega) (by omega) hce.1.2 hc1.2 (by rw [er])
      (repeat' (first | (with_reducible refine i_ops ?_; first | (refine g_mv ?_; refine s_mv ?_) | refine o_nil ?_ | (refine g_some ?_; first | refine s_g_t ?_ | refine s_g_f ?_ | refine s_g_f' ?_ | refine s_g_u ?_) | (refine g_pick ?_; first | refine s_pick_t ?_ | refine s_pick_f ?_) | (refine g_len ?_; first | refine s_lenB ?_ | refine s_pure ?_) | (refine g_idx ?_; first | (refine s_idxOB ?_; intro p hp hpw) | (refine s_idxB ?_; intro p hp)) | (refine g_pure ?_; first | refine s_nilPf ?_ | refine s_nilPt ?_ | refine s_nilNf ?_ | refine s_nilNt ?_ | refine s_nilck ?_ | refine s_fptr0 ?_ | refine s_seq0 ?_ | refine s_lenSB ?_ | refine s_pure ?_ | refine s_saddB ?_) | (refine g_lload ?_; refine s_lload ?_) | (refine g_lbox ?_; refine s_lbox ?_) | (refine g_hload ?_; first | refine s_hbx ?_ | refine s_d0 ?_ | refine s_d1 ?_ | refine s_d2 ?_ | refine s_d3 ?_ | refine s_d4 ?_ | refine s_d5 ?_ | refine s_d6 ?_ | refine s_hloadP ?_) | refine o_callp qrf (by first | exact P1 | exact P2 | exact AL) ?_ | (refine o_callg qrf (by first | exact P1 | exact P2 | exact AL) ?_; intro G' hle)) | (with_reducible refine i_vc ?_; first | refine v_seq ?_ | refine v_ops ?_ | (refine g_cond ?_; first | refine s_cond_t ?_ | refine s_cond_f ?_) | refine v_block ?_ | refine v_skip ?_ | refine v_exit ?_ | refine v_ret ?_) | (with_reducible first | refine n_then ?_ | refine r_then ?_ | refine e_then ?_ | refine n_block ?_ | refine r_block ?_ | refine e_block_eq qrf ?_ | refine e_block_ne qrf ?_) | ((with_reducible first | refine s_g_c ?_ ?_ | refine s_cond_c ?_ ?_) <;> intro hb <;> rw [hb] <;> (try simp only [decide_eq_true_eq, decide_eq_false_iff_not, beq_iff_eq, bne_iff_ne, beq_eq_false_iff_ne, bne_eq_false_iff_eq, ne_eq, Int.not_lt, Int.not_le, gt_iff_lt, ge_iff_le, Bool.not_eq_true', Bool.not_eq_false'] at hb)) | ((with_reducible first | refine s_ret ?_ | refine s_normal ?_); try simp only [x_tup0, x_tup1, x_tup2, x_tup3, x_tup4, x_tup5, and_true, true_and])))
      rotate_left
      · exact absurd (by assumption) e0
      have p9 := T4.q.up (by assumption)
      have c9 := syncP p9
      rw [AD.calm_sync hc1] at c9
      refine o_callc qrf c9 ?_
      rintro _ H5 ⟨rfl, I5, us5, l5, p5⟩
      dsimp only at p5
      have P5 : HC Try.prog 14 #[pt b] H5 fun v G' => v = .int .i64 0 ∧ G' = H5 := pendingP p5 (by omega)
      (repeat' (first | (with_reducible refine i_ops ?_; first | (refine g_mv ?_; refine s_mv ?_) | refine o_nil ?_ | (refine g_some ?_; first | refine s_g_t ?_ | refine s_g_f ?_ | refine s_g_f' ?_ | refine s_g_u ?_) | (refine g_pick ?_; first | refine s_pick_t ?_ | refine s_pick_f ?_) | (refine g_len ?_; first | refine s_lenB ?_ | refine s_pure ?_) | (refine g_idx ?_; first | (refine s_idxOB ?_; intro p hp hpw) | (refine s_idxB ?_; intro p hp)) | (refine g_pure ?_; first | refine s_nilPf ?_ | refine s_nilPt ?_ | refine s_nilNf ?_ | refine s_nilNt ?_ | refine s_nilck ?_ | refine s_fptr0 ?_ | refine s_seq0 ?_ | refine s_lenSB ?_ | refine s_pure ?_ | refine s_saddB ?_) | (refine g_lload ?_; refine s_lload ?_) | (refine g_lbox ?_; refine s_lbox ?_) | (refine g_hload ?_; first | refine s_hbx ?_ | refine s_d0 ?_ | refine s_d1 ?_ | refine s_d2 ?_ | refine s_d3 ?_ | refine s_d4 ?_ | refine s_d5 ?_ | refine s_d6 ?_ | refine s_hloadP ?_) | refine o_callp qrf (by first | exact P5) ?_ | (refine o_callg qrf (by first | exact P5) ?_; intro G' hle)) | (with_reducible refine i_vc ?_; first | refine v_seq ?_ | refine v_ops ?_ | (refine g_cond ?_; first | refine s_cond_t ?_ | refine s_cond_f ?_) | refine v_block ?_ | refine v_skip ?_ | refine v_exit ?_ | refine v_ret ?_) | (with_reducible first | refine n_then ?_ | refine r_then ?_ | refine e_then ?_ | refine n_block ?_ | refine r_block ?_ | refine e_block_eq qrf ?_ | refine e_block_ne qrf ?_) | ((with_reducible first | refine s_g_c ?_ ?_ | refine s_cond_c ?_ ?_) <;> intro hb <;> rw [hb] <;> (try simp only [decide_eq_true_eq, decide_eq_false_iff_not, beq_iff_eq, bne_iff_ne, beq_eq_false_iff_ne, bne_eq_false_iff_eq, ne_eq, Int.not_lt, Int.not_le, gt_iff_lt, ge_iff_le, Bool.not_eq_true', Bool.not_eq_false'] at hb)) | ((with_reducible first | refine s_ret ?_ | refine s_normal ?_); try simp only [x_tup0, x_tup1, x_tup2, x_tup3, x_tup4, x_tup5, and_true, true_and])))
      refine o_callc qrf (copyP p5 (by omega)) ?_
      intro v H6 hcop2
      obtain ⟨b7, mb7, us7, I7, rfl, l7, T7⟩ := two_copy p5 hcop2
      have hcn := AD.crash_nil (A := { A1 with lasts := A1.now, units := [] }) rfl keep
      (repeat' (first | (with_reducible refine i_ops ?_; first | (refine g_mv ?_; refine s_mv ?_) | refine o_nil ?_ | (refine g_some ?_; first | refine s_g_t ?_ | refine s_g_f ?_ | refine s_g_f' ?_ | refine s_g_u ?_) | (refine g_pick ?_; first | refine s_pick_t ?_ | refine s_pick_f ?_) | (refine g_len ?_; first | refine s_lenB ?_ | refine s_pure ?_) | (refine g_idx ?_; first | (refine s_idxOB ?_; intro p hp hpw) | (refine s_idxB ?_; intro p hp)) | (refine g_pure ?_; first | refine s_nilPf ?_ | refine s_nilPt ?_ | refine s_nilNf ?_ | refine s_nilNt ?_ | refine s_nilck ?_ | refine s_fptr0 ?_ | refine s_seq0 ?_ | refine s_lenSB ?_ | refine s_pure ?_ | refine s_saddB ?_) | (refine g_lload ?_; refine s_lload ?_) | (refine g_lbox ?_; refine s_lbox ?_) | (refine g_hload ?_; first | refine s_hbx ?_ | refine s_d0 ?_ | refine s_d1 ?_ | refine s_d2 ?_ | refine s_d3 ?_ | refine s_d4 ?_ | refine s_d5 ?_ | refine s_d6 ?_ | refine s_hloadP ?_)) | (with_reducible refine i_vc ?_; first | refine v_seq ?_ | refine v_ops ?_ | (refine g_cond ?_; first | refine s_cond_t ?_ | refine s_cond_f ?_) | refine v_block ?_ | refine v_skip ?_ | refine v_exit ?_ | refine v_ret ?_) | (with_reducible first | refine n_then ?_ | refine r_then ?_ | refine e_then ?_ | refine n_block ?_ | refine r_block ?_ | refine e_block_eq qrf ?_ | refine e_block_ne qrf ?_) | ((with_reducible first | refine s_g_c ?_ ?_ | refine s_cond_c ?_ ?_) <;> intro hb <;> rw [hb] <;> (try simp only [decide_eq_true_eq, decide_eq_false_iff_not, beq_iff_eq, bne_iff_ne, beq_eq_false_iff_ne, bne_eq_false_iff_eq, ne_eq, Int.not_lt, Int.not_le, gt_iff_lt, ge_iff_le, Bool.not_eq_true', Bool.not_eq_false'] at hb)) | ((with_reducible first | refine s_ret ?_ | refine s_normal ?_); try simp only [x_tup0, x_tup1, x_tup2, x_tup3, x_tup4, x_tup5, and_true, true_and])))
      refine o_callc qrf (T7.swap.call (w := .int .i64 0) (A' := (AD.crash { A1 with lasts := A1.now, units := [] } keep).1) (Nat.le_refl _) fun G hp => (crashP hp (by omega) keep hk1 hk2).mono fun v G' h => ?_) ?_
      · obtain ⟨h1, I', m', h2, _, h3⟩ := h
        exact ⟨by rw [h1, hcn.1]; rfl, I', m', _, h2, h3⟩
      rintro _ H8 ⟨rfl, I8, m8, u8, l8, T8⟩
      have AL2 := alikeP T8.p T8.q (by omega) (by omega) hcn.2.2 hc1.2 hcn.2.1
      (repeat' (first | (with_reducible refine i_ops ?_; first | (refine g_mv ?_; refine s_mv ?_) | refine o_nil ?_ | (refine g_some ?_; first | refine s_g_t ?_ | refine s_g_f ?_ | refine s_g_f' ?_ | refine s_g_u ?_) | (refine g_pick ?_; first | refine s_pick_t ?_ | refine s_pick_f ?_) | (refine g_len ?_; first | refine s_lenB ?_ | refine s_pure ?_) | (refine g_idx ?_; first | (refine s_idxOB ?_; intro p hp hpw) | (refine s_idxB ?_; intro p hp)) | (refine g_pure ?_; first | refine s_nilPf ?_ | refine s_nilPt ?_ | refine s_nilNf ?_ | refine s_nilNt ?_ | refine s_nilck ?_ | refine s_fptr0 ?_ | refine s_seq0 ?_ | refine s_lenSB ?_ | refine s_pure ?_ | refine s_saddB ?_) | (refine g_lload ?_; refine s_lload ?_) | (refine g_lbox ?_; refine s_lbox ?_) | (refine g_hload ?_; first | refine s_hbx ?_ | refine s_d0 ?_ | refine s_d1 ?_ | refine s_d2 ?_ | refine s_d3 ?_ | refine s_d4 ?_ | refine s_d5 ?_ | refine s_d6 ?_ | refine s_hloadP ?_) | refine o_callp qrf (by first | exact AL2) ?_ | (refine o_callg qrf (by first | exact AL2) ?_; intro G' hle)) | (with_reducible refine i_vc ?_; first | refine v_seq ?_ | refine v_ops ?_ | (refine g_cond ?_; first | refine s_cond_t ?_ | refine s_cond_f ?_) | refine v_block ?_ | refine v_skip ?_ | refine v_exit ?_ | refine v_ret ?_) | (with_reducible first | refine n_then ?_ | refine r_then ?_ | refine e_then ?_ | refine n_block ?_ | refine r_block ?_ | refine e_block_eq qrf ?_ | refine e_block_ne qrf ?_) | ((with_reducible first | refine s_g_c ?_ ?_ | refine s_cond_c ?_ ?_) <;> intro hb <;> rw [hb] <;> (try simp only [decide_eq_true_eq, decide_eq_false_iff_not, beq_iff_eq, bne_iff_ne, beq_eq_false_iff_ne, bne_eq_false_iff_eq, ne_eq, Int.not_lt, Int.not_le, gt_iff_lt, ge_iff_le, Bool.not_eq_true', Bool.not_eq_false'] at hb)) | ((with_reducible first | refine s_ret ?_ | refine s_normal ?_); try simp only [x_tup0, x_tup1, x_tup2, x_tup3, x_tup4, x_tup5, and_true, true_and])))
      refine o_callc qrf (usedW (W := usF A1.now) T8.p (by omega) (by assumption) (congrArg usF hcn.2.1)) ?_
      rintro _ H9 ⟨rfl, l9⟩
      (repeat' (first | (with_reducible refine i_ops ?_; first | (refine g_mv ?_; refine s_mv ?_) | refine o_nil ?_ | (refine g_some ?_; first | refine s_g_t ?_ | refine s_g_f ?_ | refine s_g_f' ?_ | refine s_g_u ?_) | (refine g_pick ?_; first | refine s_pick_t ?_ | refine s_pick_f ?_) | (refine g_len ?_; first | refine s_lenB ?_ | refine s_pure ?_) | (refine g_idx ?_; first | (refine s_idxOB ?_; intro p hp hpw) | (refine s_idxB ?_; intro p hp)) | (refine g_pure ?_; first | refine s_nilPf ?_ | refine s_nilPt ?_ | refine s_nilNf ?_ | refine s_nilNt ?_ | refine s_nilck ?_ | refine s_fptr0 ?_ | refine s_seq0 ?_ | refine s_lenSB ?_ | refine s_pure ?_ | refine s_saddB ?_) | (refine g_lload ?_; refine s_lload ?_) | (refine g_lbox ?_; refine s_lbox ?_) | (refine g_hload ?_; first | refine s_hbx ?_ | refine s_d0 ?_ | refine s_d1 ?_ | refine s_d2 ?_ | refine s_d3 ?_ | refine s_d4 ?_ | refine s_d5 ?_ | refine s_d6 ?_ | refine s_hloadP ?_)) | (with_reducible refine i_vc ?_; first | refine v_seq ?_ | refine v_ops ?_ | (refine g_cond ?_; first | refine s_cond_t ?_ | refine s_cond_f ?_) | refine v_block ?_ | refine v_skip ?_ | refine v_exit ?_ | refine v_ret ?_) | (with_reducible first | refine n_then ?_ | refine r_then ?_ | refine e_then ?_ | refine n_block ?_ | refine r_block ?_ | refine e_block_eq qrf ?_ | refine e_block_ne qrf ?_) | ((with_reducible first | refine s_g_c ?_ ?_ | refine s_cond_c ?_ ?_) <;> intro hb <;> rw [hb] <;> (try simp only [decide_eq_true_eq, decide_eq_false_iff_not, beq_iff_eq, bne_iff_ne, beq_eq_false_iff_ne, bne_eq_false_iff_eq, ne_eq, Int.not_lt, Int.not_le, gt_iff_lt, ge_iff_le, Bool.not_eq_true', Bool.not_eq_false'] at hb)) | ((with_reducible first | refine s_ret ?_ | refine s_normal ?_); try simp only [x_tup0, x_tup1, x_tup2, x_tup3, x_tup4, x_tup5, and_true, true_and])))
      refine o_callc qrf (usedW (W := usF A1.now) T8.q (by omega) (GH.le_trans (by assumption) l9) rfl) ?_
      rintro _ H10 ⟨rfl, l10⟩
      (repeat' (first | (with_reducible refine i_ops ?_; first | (refine g_mv ?_; refine s_mv ?_) | refine o_nil ?_ | (refine g_some ?_; first | refine s_g_t ?_ | refine s_g_f ?_ | refine s_g_f' ?_ | refine s_g_u ?_) | (refine g_pick ?_; first | refine s_pick_t ?_ | refine s_pick_f ?_) | (refine g_len ?_; first | refine s_lenB ?_ | refine s_pure ?_) | (refine g_idx ?_; first | (refine s_idxOB ?_; intro p hp hpw) | (refine s_idxB ?_; intro p hp)) | (refine g_pure ?_; first | refine s_nilPf ?_ | refine s_nilPt ?_ | refine s_nilNf ?_ | refine s_nilNt ?_ | refine s_nilck ?_ | refine s_fptr0 ?_ | refine s_seq0 ?_ | refine s_lenSB ?_ | refine s_pure ?_ | refine s_saddB ?_) | (refine g_lload ?_; refine s_lload ?_) | (refine g_lbox ?_; refine s_lbox ?_) | (refine g_hload ?_; first | refine s_hbx ?_ | refine s_d0 ?_ | refine s_d1 ?_ | refine s_d2 ?_ | refine s_d3 ?_ | refine s_d4 ?_ | refine s_d5 ?_ | refine s_d6 ?_ | refine s_hloadP ?_)) | (with_reducible refine i_vc ?_; first | refine v_seq ?_ | refine v_ops ?_ | (refine g_cond ?_; first | refine s_cond_t ?_ | refine s_cond_f ?_) | refine v_block ?_ | refine v_skip ?_ | refine v_exit ?_ | refine v_ret ?_) | (with_reducible first | refine n_then ?_ | refine r_then ?_ | refine e_then ?_ | refine n_block ?_ | refine r_block ?_ | refine e_block_eq qrf ?_ | refine e_block_ne qrf ?_) | ((with_reducible first | refine s_g_c ?_ ?_ | refine s_cond_c ?_ ?_) <;> intro hb <;> rw [hb] <;> (try simp only [decide_eq_true_eq, decide_eq_false_iff_not, beq_iff_eq, bne_iff_ne, beq_eq_false_iff_ne, bne_eq_false_iff_eq, ne_eq, Int.not_lt, Int.not_le, gt_iff_lt, ge_iff_le, Bool.not_eq_true', Bool.not_eq_false'] at hb)) | ((with_reducible first | refine s_ret ?_ | refine s_normal ?_); try simp only [x_tup0, x_tup1, x_tup2, x_tup3, x_tup4, x_tup5, and_true, true_and])))
      have ll1 := GH.le_trans j3 (GH.le_trans l2 (GH.le_trans l3 (GH.le_trans l4 (GH.le_trans l5 (GH.le_trans l7 (GH.le_trans l8 T8.p.le))))))
      exact GH.le_trans ll1 (GH.le_trans (by assumption) (GH.le_trans l9 l10))
end Go.Proofs.Ytbmhdmkmnhaffaa.V
end
section
/- An act that comes in; the walk of DiskNobody. -/
set_option linter.unusedVariables false
set_option maxRecDepth 100000
namespace Go.Proofs.Ytbmhdmkmnhaffaa.V
open Go.RowKit Go.ChangeShapes Go.WideShapes
section
variable {H : Type} {enc : TypeId × Value → H} {w : World} {cs : List Value} {d : DataW H}
/-- An act, as a part of what comes in. -/
theorem Td.act (hl : cs.length = 5) (h : Td enc Try.prog w 30 cs d) : ∃ (kind n : Int) (s s' : Nm) (u : Value) (bs : List UInt8), cs = (ac kind n s s' u).toList ∧ By (whole w) u bs ∧ s.length ≤ maxLen ∧ s'.length ≤ maxLen ∧ (∃ ds d4, d = .agg ds ∧ ds[4]? = some d4 ∧ ((d4 = .nil ∧ bs = []) ∨ ∃ elems spare, d4 = .slice elems spare ∧ elems.length = bs.length)) := by
  obtain ⟨h1, ds, rfl, h2, h3⟩ := Td.struct Try.underlying30 h
  have c3 : Try.prog.cellsOf 3 = 1 := by kernel_rfl
  have c9 : Try.prog.cellsOf 9 = 1 := by kernel_rfl
  have c28 : Try.prog.cellsOf 28 = 1 := by kernel_rfl
  have c5 : Try.prog.cellsOf 5 = 1 := by kernel_rfl
  obtain ⟨d0, _, t0⟩ := h3 0 _ rfl
  obtain ⟨d1, _, t1⟩ := h3 1 _ rfl
  obtain ⟨d2, _, t2⟩ := h3 2 _ rfl
  obtain ⟨d3, _, t3⟩ := h3 3 _ rfl
  obtain ⟨d4, e4, t4⟩ := h3 4 _ rfl
  dsimp only at t0 t1 t2 t3 t4
  rw [c3] at t0 t1
  rw [c9] at t2 t3
  rw [c28] at t4
  obtain ⟨n0, x0, _⟩ := Td.int Try.underlying3 t0
  obtain ⟨n1, x1, _⟩ := Td.int Try.underlying3 t1
  obtain ⟨s2, x2, _, y2⟩ := Td.str Try.underlying9 t2
  obtain ⟨s3, x3, _, y3⟩ := Td.str Try.underlying9 t3
  obtain ⟨u, bs, x4, y4, z4⟩ := Td.bytes Try.underlying28 Try.underlying5 c5 t4
  refine ⟨n0, n1, s2.data.toList, s3.data.toList, u, bs, ?_, y4, y2, y3, ds, d4, rfl, e4, z4⟩
  match cs, hl with
  | [a0, a1, a2, a3, a4], _ =>
    simp at x0 x1 x2 x3 x4
    rw [x0, x1, x2, x3, x4, strB_of s2, strB_of s3]
    rfl
end
end Go.Proofs.Ytbmhdmkmnhaffaa.V
end
section
/- Acts that come in, with their bounds; the walk of DiskSynced. -/
set_option linter.unusedVariables false
set_option maxRecDepth 100000
namespace Go.Proofs.Ytbmhdmkmnhaffaa.V
open Go.RowKit Go.ChangeShapes Go.WideShapes
theorem weightsAll_mem {H : Type} {P : Program} {e : TypeId} : ∀ {ds : List (DataW H)} {j : Nat} {d : DataW H}, ds[j]? = some d → ∀ n ∈ d.weights P e, n ∈ DataW.weightsAll P e ds
  | d0 :: ds, 0, d, hd, n, hn => by
    simp only [List.getElem?_cons_zero, Option.some.injEq] at hd
    subst hd
    simp only [DataW.weightsAll, List.mem_append]; exact .inl hn
  | d0 :: ds, j + 1, d, hd, n, hn => by
    simp only [List.getElem?_cons_succ] at hd
    simp only [DataW.weightsAll, List.mem_append]; exact .inr (weightsAll_mem hd n hn)
  | [], _, _, hd, _, _ => by simp at hd
section
variable {H : Type} {enc : TypeId × Value → H} {w : World} {cs : List Value} {d : DataW H}
theorem Td.actW (hl : cs.length = 5) (h : Td enc Try.prog w 30 cs d) (hw : ∀ n ∈ d.weights Try.prog 30, n ≤ reachBytes) : ∃ (a : Act) (u : Value), cs = (ac a.kind a.n a.s a.s' u).toList ∧ By (whole w) u a.bs ∧ a.Ok := by
  have hr : reachBytes = 140737488351232 := by decide
  obtain ⟨h1, ds, rfl, h2, h3⟩ := Td.struct Try.underlying30 h
  have c3 : Try.prog.cellsOf 3 = 1 := by kernel_rfl
  have c9 : Try.prog.cellsOf 9 = 1 := by kernel_rfl
  have c28 : Try.prog.cellsOf 28 = 1 := by kernel_rfl
  have c5 : Try.prog.cellsOf 5 = 1 := by kernel_rfl
  have b5 : Try.prog.bytesOf 5 = 1 := by kernel_rfl
  obtain ⟨d0, _, t0⟩ := h3 0 _ rfl
  obtain ⟨d1, _, t1⟩ := h3 1 _ rfl
  obtain ⟨d2, e2, t2⟩ := h3 2 _ rfl
  obtain ⟨d3, e3, t3⟩ := h3 3 _ rfl
  obtain ⟨d4, e4, t4⟩ := h3 4 _ rfl
  dsimp only at t0 t1 t2 t3 t4
  rw [c3] at t0 t1
  rw [c9] at t2 t3
  rw [c28] at t4
  obtain ⟨n0, x0, _⟩ := Td.int Try.underlying3 t0
  obtain ⟨n1, x1, _, wf1⟩ := Td.int Try.underlying3 t1
  obtain ⟨s2, x2, rfl, y2⟩ := Td.str Try.underlying9 t2
  obtain ⟨s3, x3, rfl, y3⟩ := Td.str Try.underlying9 t3
  obtain ⟨u, bs, x4, y4, z4⟩ := Td.bytes Try.underlying28 Try.underlying5 c5 t4
  have hw2 : ∀ (j : Nat) (t : TypeId) (dj : DataW H), ([3, 3, 9, 9, 28] : List TypeId)[j]? = some t → ds[j]? = some dj → ∀ n ∈ dj.weights Try.prog t, n ≤ reachBytes := by
    intro j t dj ht hd n hn
    refine hw n ?_
    simp only [DataW.weights, Try.underlying30]
    exact DataW.weights_mem_each ht hd n hn
  have l2 := hw2 2 9 _ rfl e2 s2.data.toList.length (by simp [DataW.weights])
  have l3 := hw2 3 9 _ rfl e3 s3.data.toList.length (by simp [DataW.weights])
  have l4 : bs.length ≤ reachBytes := by
    rcases z4 with ⟨_, rfl⟩ | ⟨el, sp, rfl, e7⟩
    · exact Nat.zero_le _
    · have := hw2 4 28 _ rfl e4 ((el.length + sp.length) * Try.prog.bytesOf 5) (by simp [DataW.weights, Try.underlying28])
      rw [b5] at this
      omega
  obtain ⟨g1, g2⟩ := wf_i64 wf1
  refine ⟨⟨n0, n1, s2.data.toList, s3.data.toList, bs⟩, u, ?_, y4, ⟨g1, g2, by dsimp only; omega, by dsimp only; omega, by dsimp only; omega⟩⟩
  match cs, hl with
  | [a0, a1, a2, a3, a4], _ =>
    simp at x0 x1 x2 x3 x4
    rw [x0, x1, x2, x3, x4, strB_of s2, strB_of s3]
    rfl
variable {r : Reach} {base : Nat} {v : Value} {ps : List MemPlace}
theorem top_act (hv : Value.okWide Try.prog w r base 30 v) (h : DataW.Trod enc Try.prog w 0 (fun _ => true) true 30 v d ps) (hw : ∀ n ∈ d.weights Try.prog 30, n ≤ reachBytes) : ∃ (a : Act) (wa : Option Addr) (wl wc : Nat), v = .agg (ac a.kind a.n a.s a.s' (.slice wa wl wc)) ∧ By (whole w) (.slice wa wl wc) a.bs ∧ a.Ok := by
  obtain ⟨cs, rfl, h1⟩ := okWide_struct Try.underlying30 hv
  have hc : Try.prog.cellsOf 30 = 5 := by kernel_rfl
  obtain ⟨a, u, e, hb, ok⟩ := Td.actW (by rw [← hc, ← h1]; exact Array.length_toList) (Td.of h) hw
  obtain ⟨wa, wl, wc, rfl⟩ := hb.shape
  exact ⟨a, wa, wl, wc, by rw [show cs = ac a.kind a.n a.s a.s' (.slice wa wl wc) from Array.ext' e], hb, ok⟩
theorem top_acts (hv : Value.okWide Try.prog w r base 22 v) (h : DataW.Trod enc Try.prog w 0 (fun _ => true) true 22 v d ps) (hw : ∀ n ∈ d.weights Try.prog 22, n ≤ reachBytes) : ∃ ls, ActsV (whole w) v ls := by
  have hc : Try.prog.cellsOf 30 = 5 := by kernel_rfl
  rcases top_slice Try.underlying22 (by rw [hc]; decide) hv h with ⟨rfl, rfl⟩ | ⟨elems, spare, flat, rfl, h1, h2, h3⟩
  · exact ⟨[], rfl, ⟨[], Sl.nil 5 _, fun i hi => absurd hi (Nat.not_lt_zero _)⟩, fun a ha => by cases ha⟩
  · rw [hc] at h2 h3
    have hl := h2.len
    have hex : ∀ i, i < lenS v → ∃ (a : Act) (u : Value), (flat.drop (i * 5)).take 5 = (ac a.kind a.n a.s a.s' u).toList ∧ By (whole w) u a.bs ∧ a.Ok := by
      intro i hi
      obtain ⟨di, e1, e2⟩ := h3 i hi
      refine Td.actW (by rw [List.length_take, List.length_drop]; omega) e2 fun n hn => hw n ?_
      simp only [DataW.weights, Try.underlying22, List.mem_cons, List.mem_append]
      exact .inr (.inl (weightsAll_mem e1 n hn))
    have hf : ∃ f : Nat → Act × Value, ∀ i, i < lenS v → (flat.drop (i * 5)).take 5 = (ac (f i).1.kind (f i).1.n (f i).1.s (f i).1.s' (f i).2).toList ∧ By (whole w) (f i).2 (f i).1.bs ∧ (f i).1.Ok := by
      refine ⟨fun i => if hi : i < lenS v then ((hex i hi).choose, (hex i hi).choose_spec.choose) else (⟨0, 0, [], [], []⟩, .bool false), fun i hi => ?_⟩
      simp only [hi, dif_pos]
      exact (hex i hi).choose_spec.choose_spec
    obtain ⟨f, hf⟩ := hf
    refine ⟨(List.range (lenS v)).map fun i => (f i).1, by simp, ⟨flat, h2, fun i hi => ?_⟩, fun a ha => ?_⟩
    · simp at hi
      obtain ⟨k1, k2, k3⟩ := hf i hi
      refine ⟨(f i).2, by simpa using k1, by simpa using k2⟩
    · obtain ⟨i, hi, rfl⟩ := List.mem_map.1 ha
      exact (hf i (List.mem_range.1 hi)).2.2
end
theorem diskSynced_walk {H : Type} {enc : TypeId × Value → H} {W : World} {base : Nat} {v0 v1 v2 v3 : Value} {d0 d1 d2 d3 : DataW H} {p0 p1 p2 p3 : List MemPlace}
    (hv0 : Value.okWide Try.prog W .any base 22 v0) (h0 : DataW.Trod enc Try.prog W 0 (fun _ => true) true 22 v0 d0 p0)
    (hv1 : Value.okWide Try.prog W .any base 30 v1) (h1 : DataW.Trod enc Try.prog W 0 (fun _ => true) true 30 v1 d1 p1)
    (hv2 : Value.okWide Try.prog W .any base 3 v2) (h2 : DataW.Trod enc Try.prog W 0 (fun _ => true) true 3 v2 d2 p2)
    (hv3 : Value.okWide Try.prog W .any base 3 v3) (h3 : DataW.Trod enc Try.prog W 0 (fun _ => true) true 3 v3 d3 p3)
    (hsz : (DataW.weightsEach Try.prog [22, 30, 3, 3] [d0, d1, d2, d3]).all (· ≤ reachBytes) = true) :
    HC Try.prog 5 #[v0, v1, v2, v3] (whole W) fun v G' => v = .bool true ∧ (whole W).le G' := by
  have hall := List.all_eq_true.1 hsz
  obtain ⟨ls, hls⟩ := top_acts hv0 h0 fun n hn => of_decide_eq_true (hall n (DataW.weights_mem_each (j := 0) rfl rfl n hn))
  obtain ⟨a, wa, wl, wc, rfl, hw, ha⟩ := top_act hv1 h1 fun n hn => of_decide_eq_true (hall n (DataW.weights_mem_each (j := 1) rfl rfl n hn))
  obtain ⟨room, rfl, _⟩ := top_int Try.underlying3 hv2 h2
  obtain ⟨keep, rfl, hk⟩ := top_int Try.underlying3 hv3 h3
  obtain ⟨k1, k2⟩ := wf_i64 hk
  exact lawSynced v0 ls a wa wl wc room keep _ hls ha hw k1 k2
end Go.Proofs.Ytbmhdmkmnhaffaa.V
end
