/- Points written. -/
import Derived.Test.YtdeihgcgglhhcaaPeKV
import Derived.Test.YtdeihgcgglhhcaaPeCC
set_option linter.unusedSimpArgs false
set_option linter.unusedVariables false
set_option maxRecDepth 20000
-- @retp
-- @extra s_eqP s_slcAq s_eqD s_naddc s_nadd s_naddL s_nilck s_fptr0
-- @pre g_lload s_lloadPI s_lloadPX s_lloadPY s_lloadPP
-- @pre g_lstore s_lstoreP
-- @pre g_lbox s_lboxP
-- @pre g_build s_bp3 s_bp2 s_bp1 s_bp0
namespace Go.Proofs.Ytdeihgcgglhhcaa.V
open Go.RowKit Go.ChangeShapes Go.WideShapes
section
variable {P : Program} {E : Env} {K : St → Prop} {r : List Stp} {dd : Option Nat} {L : SL} {A : AL} {G : GH}
theorem s_slcAq {d b q len : Nat} {x : Operand} (h : vops P E r K (S (.set d (.slice (some ⟨b, q, none⟩) len len) L) A G)) (hx : evo L x = some (.pointer (some ⟨b, q, none⟩)) := by with_unfolding_all rfl) : vops P E (⟨none, dd, .pure d (.slcA len 1 false false false) [x]⟩ :: r) K (S L A G) := by
  refine o_pure (vs := [.pointer (some ⟨b, q, none⟩)]) (by simp only [evs, hx]) ?_ h
  simp [pureV, bnds, cutV, addO, Addr.add]
end
section
variable {x y : List UInt8} {i : Bool} {G : GH} {b : Nat} {e : TypeId} {fr : Nat × Nat}
theorem box_i (hG : G b = some (.cells (pcells x y i) e fr)) (hx : x.length = 32) (hy : y.length = 32) : PtR G (.pointer (some ⟨b, 64, none⟩)) 1 false (.bool i) := ⟨b, 64, _, e, fr, rfl, hG, take_i hx hy⟩
theorem box_p (hG : G b = some (.cells (pcells x y i) e fr)) (hx : x.length = 32) (hy : y.length = 32) : PtR G (.pointer (some ⟨b, 0, none⟩)) 65 true (pnt x y i) := ⟨b, 0, _, e, fr, rfl, hG, take_p hx hy⟩
theorem row_sl {cs : Array Value} {q : Nat} {l : List UInt8} (hG : G b = some (.cells cs e fr)) (ht : takeV true cs q 32 = some (dK l)) : By G (.slice (some ⟨b, q, none⟩) 32 32) l := by
  refine ⟨?_, by simp [okS]⟩
  have h : (if q + 32 ≤ cs.size then some (Value.agg (cs.extract q (q + 32))) else none) = some (dK l) := ht
  by_cases hs : q + 32 ≤ cs.size
  · rw [if_pos hs] at h
    have h2 : cs.extract q (q + 32) = bca l := by injection (Option.some.inj h)
    rw [rd_of hG (by simpa using hs)]
    show some (cs.extract q (q + 32 * 1)).toList = _
    rw [Nat.mul_one, h2]
  · rw [if_neg hs] at h; cases h
theorem box_x (hG : G b = some (.cells (pcells x y i) e fr)) (hx : x.length = 32) : By G (.slice (some ⟨b, 0, none⟩) 32 32) x := row_sl hG (take_x hx)
theorem box_y (hG : G b = some (.cells (pcells x y i) e fr)) (hx : x.length = 32) (hy : y.length = 32) : By G (.slice (some ⟨b, 32, none⟩) 32 32) y := row_sl hG (take_y hx hy)
end
/-- A point's bytes; why there are none. -/
def enB (x y : List UInt8) (i : Bool) : List UInt8 := if i then [] else if onP x y i then 4 :: (x ++ y) else []
def enE (x y : List UInt8) (i : Bool) : Int := if i then 100 else if onP x y i then 0 else 100
theorem enB_len {x y : List UInt8} {i : Bool} (hx : x.length = 32) (hy : y.length = 32) : (enB x y i).length ≤ 65 := by
  unfold enB
  split
  · simp
  · split
    · simp [hx, hy]
    · simp
theorem encodeF (x y : List UInt8) (i : Bool) (G : GH) (hx : x.length = 32) (hy : y.length = 32) : HC Try.prog 23 #[pnt x y i] G fun v G' => G.le G' ∧ ∃ w, v = .tuple #[w, .int .i64 (enE x y i)] ∧ Own 1 G G' w ((enB x y i).map bv) := by
  refine HC.start comp23 rfl ?_; unfold pc23
  refine v_seq ?_
  refine v_ops ?_
  refine o_hbox (z := pcells x y i) (by with_unfolding_all rfl) rfl ?_
  intro b hbn
  generalize hG1 : G.put b _ = G1
  have hle1 : G.le G1 := by rw [← hG1]; exact GH.le_put _ hbn
  obtain ⟨e, hGb⟩ : ∃ e, G1 b = some (.cells (pcells x y i) e (0, 0)) := ⟨_, by rw [← hG1]; exact GH.put_same _ _ _⟩
  clear hG1
  have P1 := box_i hGb hx hy
  have P2 := box_p hGb hx hy
  (repeat' (first | (with_reducible refine i_ops ?_; first | (refine g_mv ?_; refine s_mv ?_) | refine o_nil ?_ | (refine g_some ?_; first | refine s_g_t ?_ | refine s_g_f ?_ | refine s_g_f' ?_ | refine s_g_u ?_) | (refine g_pick ?_; first | refine s_pick_t ?_ | refine s_pick_f ?_) | (refine g_slc ?_; ((first | refine s_slcB ?_ | refine s_slcB01 ?_ | refine s_slcB10 ?_); intro us hus hbs)) | (refine g_pure ?_; first | refine s_eqP ?_ | refine s_slcAq ?_ | refine s_eqD ?_ | refine s_naddc ?_ | refine s_nadd ?_ | refine s_naddL ?_ | refine s_nilck ?_ | refine s_fptr0 ?_ | refine s_pure ?_ | refine s_saddB ?_) | (refine g_hload ?_; refine s_hloadP ?_) | refine o_callp (by with_unfolding_all rfl) (by first | exact onF x y i _ hx hy) ?_ | (refine o_callg (by with_unfolding_all rfl) (by first | exact onF x y i _ hx hy) ?_; intro G' hle)) | (with_reducible refine i_vc ?_; first | refine v_seq ?_ | refine v_ops ?_ | (refine g_cond ?_; first | refine s_cond_t ?_ | refine s_cond_f ?_) | refine v_skip ?_ | refine v_ret ?_ | refine s_drawl ?_ | refine v_draw0 ?_) | (with_reducible refine i_plan ?_; first | refine p_done ?_ | refine s_pre ?_ | refine s_preN ?_ | refine s_ag_t ?_ | refine s_ag_f ?_ | refine p_callp (by with_unfolding_all rfl) (by first | exact onF x y i _ hx hy) (by first | assumption | exact GH.le_refl _ | ((repeat (first | exact GH.le_refl _ | assumption | refine GH.le_trans ?_ (by assumption))); first | done | fail)) ?_ p_no | (refine p_callg (by with_unfolding_all rfl) (by first | exact onF x y i _ hx hy) (by first | assumption | exact GH.le_refl _ | ((repeat (first | exact GH.le_refl _ | assumption | refine GH.le_trans ?_ (by assumption))); first | done | fail)) ?_ p_no; intro G' hle) | refine s_alt ?_ | refine p_alt ?_ ?_) | (with_reducible first | refine n_then ?_ | refine r_then ?_ | refine e_then ?_ | (refine g_stand ?_; first | refine s_stand ?_ | refine s_standL ?_)) | ((with_reducible first | refine s_g_c ?_ ?_ | refine s_cond_c ?_ ?_ | refine s_tg_c ?_ ?_ | refine s_ag_c ?_ ?_) <;> intro hb <;> rw [hb] <;> (try simp only [decide_eq_true_eq, decide_eq_false_iff_not, beq_iff_eq, bne_iff_ne, beq_eq_false_iff_ne, bne_eq_false_iff_eq, ne_eq, Int.not_lt, Int.not_le, gt_iff_lt, ge_iff_le, Bool.not_eq_true', Bool.not_eq_false'] at hb)) | ((with_reducible first | refine s_retP1 ?_ | refine s_retP2 ?_ | refine s_ret ?_ | refine s_normal ?_); try simp only [x_tup0, x_tup1, x_tup2, x_tup3, x_tup4, x_tup5, and_true, true_and])))
  · exact ⟨hle1, _, rfl, .inl ⟨rfl, rfl⟩⟩
  · have hi : i = false := by assumption
    subst hi
    have e1 : enE x y false = 100 := by unfold enE; rw [if_neg (by decide), if_neg (by rw [hb]; decide)]
    have e2 : enB x y false = [] := by unfold enB; rw [if_neg (by decide), if_neg (by rw [hb]; decide)]
    rw [e1, e2]
    exact ⟨(by first | assumption | exact GH.le_refl _ | ((repeat (first | exact GH.le_refl _ | assumption | refine GH.le_trans ?_ (by assumption))); first | done | fail)), _, rfl, .inl ⟨rfl, rfl⟩⟩
  · have hi : i = false := by assumption
    subst hi
    have e1 : enE x y false = 0 := by unfold enE; rw [if_neg (by decide), if_pos hb]
    have e2 : enB x y false = 4 :: (x ++ y) := by unfold enB; rw [if_neg (by decide), if_pos hb]
    rw [e1, e2]
    have hbx := (box_x hGb hx).le hle
    have hby := (box_y hGb hx hy).le hle
    refine o_bsliceB [4] (by with_unfolding_all rfl) rfl rfl rfl rfl rfl ?_
    intro w3 G3 hle3 ho3 hw3
    obtain ⟨a3, n3, c3, rfl⟩ := ho3.sl.shape
    (repeat' (first | (with_reducible refine i_ops ?_; first | (refine g_mv ?_; refine s_mv ?_) | refine o_nil ?_ | (refine g_some ?_; first | refine s_g_t ?_ | refine s_g_f ?_ | refine s_g_f' ?_ | refine s_g_u ?_) | (refine g_pick ?_; first | refine s_pick_t ?_ | refine s_pick_f ?_) | (refine g_slc ?_; ((first | refine s_slcB ?_ | refine s_slcB01 ?_ | refine s_slcB10 ?_); intro us hus hbs)) | (refine g_pure ?_; first | refine s_eqP ?_ | refine s_slcAq ?_ | refine s_eqD ?_ | refine s_naddc ?_ | refine s_nadd ?_ | refine s_naddL ?_ | refine s_nilck ?_ | refine s_fptr0 ?_ | refine s_pure ?_ | refine s_saddB ?_) | (refine g_hload ?_; refine s_hloadP ?_)) | (with_reducible refine i_vc ?_; first | refine v_seq ?_ | refine v_ops ?_ | (refine g_cond ?_; first | refine s_cond_t ?_ | refine s_cond_f ?_) | refine v_skip ?_ | refine v_ret ?_ | refine s_drawl ?_ | refine v_draw0 ?_) | (with_reducible refine i_plan ?_; first | refine p_done ?_ | refine s_pre ?_ | refine s_preN ?_ | refine s_ag_t ?_ | refine s_ag_f ?_ | refine s_alt ?_ | refine p_alt ?_ ?_) | (with_reducible first | refine n_then ?_ | refine r_then ?_ | refine e_then ?_ | (refine g_stand ?_; first | refine s_stand ?_ | refine s_standL ?_)) | ((with_reducible first | refine s_g_c ?_ ?_ | refine s_cond_c ?_ ?_ | refine s_tg_c ?_ ?_ | refine s_ag_c ?_ ?_) <;> intro hb <;> rw [hb] <;> (try simp only [decide_eq_true_eq, decide_eq_false_iff_not, beq_iff_eq, bne_iff_ne, beq_eq_false_iff_ne, bne_eq_false_iff_eq, ne_eq, Int.not_lt, Int.not_le, gt_iff_lt, ge_iff_le, Bool.not_eq_true', Bool.not_eq_false'] at hb)) | ((with_reducible first | refine s_retP1 ?_ | refine s_retP2 ?_ | refine s_ret ?_ | refine s_normal ?_); try simp only [x_tup0, x_tup1, x_tup2, x_tup3, x_tup4, x_tup5, and_true, true_and])))
    refine o_bsliceO (by with_unfolding_all rfl) rfl rfl rfl rfl rfl ?_
    intro u4 G4 hle4 ho4 hu4
    (repeat' (first | (with_reducible refine i_ops ?_; first | (refine g_mv ?_; refine s_mv ?_) | refine o_nil ?_ | (refine g_some ?_; first | refine s_g_t ?_ | refine s_g_f ?_ | refine s_g_f' ?_ | refine s_g_u ?_) | (refine g_pick ?_; first | refine s_pick_t ?_ | refine s_pick_f ?_) | (refine g_slc ?_; ((first | refine s_slcB ?_ | refine s_slcB01 ?_ | refine s_slcB10 ?_); intro us hus hbs)) | (refine g_pure ?_; first | refine s_eqP ?_ | refine s_slcAq ?_ | refine s_eqD ?_ | refine s_naddc ?_ | refine s_nadd ?_ | refine s_naddL ?_ | refine s_nilck ?_ | refine s_fptr0 ?_ | refine s_pure ?_ | refine s_saddB ?_) | (refine g_hload ?_; refine s_hloadP ?_)) | (with_reducible refine i_vc ?_; first | refine v_seq ?_ | refine v_ops ?_ | (refine g_cond ?_; first | refine s_cond_t ?_ | refine s_cond_f ?_) | refine v_skip ?_ | refine v_ret ?_ | refine s_drawl ?_ | refine v_draw0 ?_) | (with_reducible refine i_plan ?_; first | refine p_done ?_ | refine s_pre ?_ | refine s_preN ?_ | refine s_ag_t ?_ | refine s_ag_f ?_ | refine s_alt ?_ | refine p_alt ?_ ?_) | (with_reducible first | refine n_then ?_ | refine r_then ?_ | refine e_then ?_ | (refine g_stand ?_; first | refine s_stand ?_ | refine s_standL ?_)) | ((with_reducible first | refine s_g_c ?_ ?_ | refine s_cond_c ?_ ?_ | refine s_tg_c ?_ ?_ | refine s_ag_c ?_ ?_) <;> intro hb <;> rw [hb] <;> (try simp only [decide_eq_true_eq, decide_eq_false_iff_not, beq_iff_eq, bne_iff_ne, beq_eq_false_iff_ne, bne_eq_false_iff_eq, ne_eq, Int.not_lt, Int.not_le, gt_iff_lt, ge_iff_le, Bool.not_eq_true', Bool.not_eq_false'] at hb)) | ((with_reducible first | refine s_retP1 ?_ | refine s_retP2 ?_ | refine s_ret ?_ | refine s_normal ?_); try simp only [x_tup0, x_tup1, x_tup2, x_tup3, x_tup4, x_tup5, and_true, true_and])))
    refine o_callc (by with_unfolding_all rfl) (concat u4 _ [[4], x, y] G4 ⟨ho4.sl, rfl, fun i hi => ?_⟩ (by simp [hx, hy])) ?_
    · match i, hi with
      | 0, _ => exact ⟨_, rfl, Sl.le ho3.sl hle4⟩
      | 1, _ => exact ⟨_, rfl, Sl.le hbx (GH.le_trans hle3 hle4)⟩
      | 2, _ => exact ⟨_, rfl, Sl.le hby (GH.le_trans hle3 hle4)⟩
    rintro w5 G5 ⟨hle5, hw5⟩
    (repeat' (first | (with_reducible refine i_ops ?_; first | (refine g_mv ?_; refine s_mv ?_) | refine o_nil ?_ | (refine g_some ?_; first | refine s_g_t ?_ | refine s_g_f ?_ | refine s_g_f' ?_ | refine s_g_u ?_) | (refine g_pick ?_; first | refine s_pick_t ?_ | refine s_pick_f ?_) | (refine g_slc ?_; ((first | refine s_slcB ?_ | refine s_slcB01 ?_ | refine s_slcB10 ?_); intro us hus hbs)) | (refine g_pure ?_; first | refine s_eqP ?_ | refine s_slcAq ?_ | refine s_eqD ?_ | refine s_naddc ?_ | refine s_nadd ?_ | refine s_naddL ?_ | refine s_nilck ?_ | refine s_fptr0 ?_ | refine s_pure ?_ | refine s_saddB ?_) | (refine g_hload ?_; refine s_hloadP ?_)) | (with_reducible refine i_vc ?_; first | refine v_seq ?_ | refine v_ops ?_ | (refine g_cond ?_; first | refine s_cond_t ?_ | refine s_cond_f ?_) | refine v_skip ?_ | refine v_ret ?_ | refine s_drawl ?_ | refine v_draw0 ?_) | (with_reducible refine i_plan ?_; first | refine p_done ?_ | refine s_pre ?_ | refine s_preN ?_ | refine s_ag_t ?_ | refine s_ag_f ?_ | refine s_alt ?_ | refine p_alt ?_ ?_) | (with_reducible first | refine n_then ?_ | refine r_then ?_ | refine e_then ?_ | (refine g_stand ?_; first | refine s_stand ?_ | refine s_standL ?_)) | ((with_reducible first | refine s_g_c ?_ ?_ | refine s_cond_c ?_ ?_ | refine s_tg_c ?_ ?_ | refine s_ag_c ?_ ?_) <;> intro hb <;> rw [hb] <;> (try simp only [decide_eq_true_eq, decide_eq_false_iff_not, beq_iff_eq, bne_iff_ne, beq_eq_false_iff_ne, bne_eq_false_iff_eq, ne_eq, Int.not_lt, Int.not_le, gt_iff_lt, ge_iff_le, Bool.not_eq_true', Bool.not_eq_false'] at hb)) | ((with_reducible first | refine s_retP1 ?_ | refine s_retP2 ?_ | refine s_ret ?_ | refine s_normal ?_); try simp only [x_tup0, x_tup1, x_tup2, x_tup3, x_tup4, x_tup5, and_true, true_and])))
    have e4 : ([[4], x, y] : List (List UInt8)).flatten = 4 :: (x ++ y) := by simp
    rw [e4] at hw5
    exact ⟨(by first | assumption | exact GH.le_refl _ | ((repeat (first | exact GH.le_refl _ | assumption | refine GH.le_trans ?_ (by assumption))); first | done | fail)), _, rfl, hw5.base (by first | assumption | exact GH.le_refl _ | ((repeat (first | exact GH.le_refl _ | assumption | refine GH.le_trans ?_ (by assumption))); first | done | fail))⟩
theorem encodeR (x y : List UInt8) (i : Bool) (G : GH) (hx : x.length = 32) (hy : y.length = 32) : HC Try.prog 24 #[pnt x y i] G fun v G' => G.le G' ∧ ∃ w, v = .tuple #[w, .int .i64 (enE x y i)] ∧ Own 1 G G' w ((enB x y i).map bv) := by
  refine HC.start comp24 rfl ?_; unfold pc24
  refine v_seq ?_
  refine v_ops ?_
  refine o_hbox (z := pcells x y i) (by with_unfolding_all rfl) rfl ?_
  intro b hbn
  generalize hG1 : G.put b _ = G1
  have hle1 : G.le G1 := by rw [← hG1]; exact GH.le_put _ hbn
  obtain ⟨e, hGb⟩ : ∃ e, G1 b = some (.cells (pcells x y i) e (0, 0)) := ⟨_, by rw [← hG1]; exact GH.put_same _ _ _⟩
  clear hG1
  have P1 := box_i hGb hx hy
  have P2 := box_p hGb hx hy
  (repeat' (first | (with_reducible refine i_ops ?_; first | (refine g_mv ?_; refine s_mv ?_) | refine o_nil ?_ | (refine g_some ?_; first | refine s_g_t ?_ | refine s_g_f ?_ | refine s_g_f' ?_ | refine s_g_u ?_) | (refine g_pick ?_; first | refine s_pick_t ?_ | refine s_pick_f ?_) | (refine g_slc ?_; ((first | refine s_slcB ?_ | refine s_slcB01 ?_ | refine s_slcB10 ?_); intro us hus hbs)) | (refine g_pure ?_; first | refine s_eqP ?_ | refine s_slcAq ?_ | refine s_eqD ?_ | refine s_naddc ?_ | refine s_nadd ?_ | refine s_naddL ?_ | refine s_nilck ?_ | refine s_fptr0 ?_ | refine s_pure ?_ | refine s_saddB ?_) | (refine g_hload ?_; refine s_hloadP ?_) | refine o_callp (by with_unfolding_all rfl) (by first | exact onR x y i _ hx hy) ?_ | (refine o_callg (by with_unfolding_all rfl) (by first | exact onR x y i _ hx hy) ?_; intro G' hle)) | (with_reducible refine i_vc ?_; first | refine v_seq ?_ | refine v_ops ?_ | (refine g_cond ?_; first | refine s_cond_t ?_ | refine s_cond_f ?_) | refine v_skip ?_ | refine v_ret ?_ | refine s_drawl ?_ | refine v_draw0 ?_) | (with_reducible refine i_plan ?_; first | refine p_done ?_ | refine s_pre ?_ | refine s_preN ?_ | refine s_ag_t ?_ | refine s_ag_f ?_ | refine p_callp (by with_unfolding_all rfl) (by first | exact onR x y i _ hx hy) (by first | assumption | exact GH.le_refl _ | ((repeat (first | exact GH.le_refl _ | assumption | refine GH.le_trans ?_ (by assumption))); first | done | fail)) ?_ p_no | (refine p_callg (by with_unfolding_all rfl) (by first | exact onR x y i _ hx hy) (by first | assumption | exact GH.le_refl _ | ((repeat (first | exact GH.le_refl _ | assumption | refine GH.le_trans ?_ (by assumption))); first | done | fail)) ?_ p_no; intro G' hle) | refine s_alt ?_ | refine p_alt ?_ ?_) | (with_reducible first | refine n_then ?_ | refine r_then ?_ | refine e_then ?_ | (refine g_stand ?_; first | refine s_stand ?_ | refine s_standL ?_)) | ((with_reducible first | refine s_g_c ?_ ?_ | refine s_cond_c ?_ ?_ | refine s_tg_c ?_ ?_ | refine s_ag_c ?_ ?_) <;> intro hb <;> rw [hb] <;> (try simp only [decide_eq_true_eq, decide_eq_false_iff_not, beq_iff_eq, bne_iff_ne, beq_eq_false_iff_ne, bne_eq_false_iff_eq, ne_eq, Int.not_lt, Int.not_le, gt_iff_lt, ge_iff_le, Bool.not_eq_true', Bool.not_eq_false'] at hb)) | ((with_reducible first | refine s_retP1 ?_ | refine s_retP2 ?_ | refine s_ret ?_ | refine s_normal ?_); try simp only [x_tup0, x_tup1, x_tup2, x_tup3, x_tup4, x_tup5, and_true, true_and])))
  · exact ⟨hle1, _, rfl, .inl ⟨rfl, rfl⟩⟩
  · have hi : i = false := by assumption
    subst hi
    have e1 : enE x y false = 100 := by unfold enE; rw [if_neg (by decide), if_neg (by rw [hb]; decide)]
    have e2 : enB x y false = [] := by unfold enB; rw [if_neg (by decide), if_neg (by rw [hb]; decide)]
    rw [e1, e2]
    exact ⟨(by first | assumption | exact GH.le_refl _ | ((repeat (first | exact GH.le_refl _ | assumption | refine GH.le_trans ?_ (by assumption))); first | done | fail)), _, rfl, .inl ⟨rfl, rfl⟩⟩
  · have hi : i = false := by assumption
    subst hi
    have e1 : enE x y false = 0 := by unfold enE; rw [if_neg (by decide), if_pos hb]
    have e2 : enB x y false = 4 :: (x ++ y) := by unfold enB; rw [if_neg (by decide), if_pos hb]
    rw [e1, e2]
    have hbx := (box_x hGb hx).le hle
    have hby := (box_y hGb hx hy).le hle
    refine o_bsliceB [4] (by with_unfolding_all rfl) rfl rfl rfl rfl rfl ?_
    intro w3 G3 hle3 ho3 hw3
    (repeat' (first | (with_reducible refine i_ops ?_; first | (refine g_mv ?_; refine s_mv ?_) | refine o_nil ?_ | (refine g_some ?_; first | refine s_g_t ?_ | refine s_g_f ?_ | refine s_g_f' ?_ | refine s_g_u ?_) | (refine g_pick ?_; first | refine s_pick_t ?_ | refine s_pick_f ?_) | (refine g_slc ?_; ((first | refine s_slcB ?_ | refine s_slcB01 ?_ | refine s_slcB10 ?_); intro us hus hbs)) | (refine g_pure ?_; first | refine s_eqP ?_ | refine s_slcAq ?_ | refine s_eqD ?_ | refine s_naddc ?_ | refine s_nadd ?_ | refine s_naddL ?_ | refine s_nilck ?_ | refine s_fptr0 ?_ | refine s_pure ?_ | refine s_saddB ?_) | (refine g_hload ?_; refine s_hloadP ?_)) | (with_reducible refine i_vc ?_; first | refine v_seq ?_ | refine v_ops ?_ | (refine g_cond ?_; first | refine s_cond_t ?_ | refine s_cond_f ?_) | refine v_skip ?_ | refine v_ret ?_ | refine s_drawl ?_ | refine v_draw0 ?_) | (with_reducible refine i_plan ?_; first | refine p_done ?_ | refine s_pre ?_ | refine s_preN ?_ | refine s_ag_t ?_ | refine s_ag_f ?_ | refine s_alt ?_ | refine p_alt ?_ ?_) | (with_reducible first | refine n_then ?_ | refine r_then ?_ | refine e_then ?_ | (refine g_stand ?_; first | refine s_stand ?_ | refine s_standL ?_)) | ((with_reducible first | refine s_g_c ?_ ?_ | refine s_cond_c ?_ ?_ | refine s_tg_c ?_ ?_ | refine s_ag_c ?_ ?_) <;> intro hb <;> rw [hb] <;> (try simp only [decide_eq_true_eq, decide_eq_false_iff_not, beq_iff_eq, bne_iff_ne, beq_eq_false_iff_ne, bne_eq_false_iff_eq, ne_eq, Int.not_lt, Int.not_le, gt_iff_lt, ge_iff_le, Bool.not_eq_true', Bool.not_eq_false'] at hb)) | ((with_reducible first | refine s_retP1 ?_ | refine s_retP2 ?_ | refine s_ret ?_ | refine s_normal ?_); try simp only [x_tup0, x_tup1, x_tup2, x_tup3, x_tup4, x_tup5, and_true, true_and])))
    refine o_appendO (by with_unfolding_all rfl) (by with_unfolding_all rfl) ho3 (Sl.le hbx hle3) (cells1_bytes _) rfl hle3 (by rw [hw3, By.len hbx, hx]; decide) ?_
    intro w4 G4 q1 q2 q3 q4 q5
    have q2' : Own 1 G' G4 w4 (([4] ++ x).map bv) := by rw [List.map_append]; exact q2
    (repeat' (first | (with_reducible refine i_ops ?_; first | (refine g_mv ?_; refine s_mv ?_) | refine o_nil ?_ | (refine g_some ?_; first | refine s_g_t ?_ | refine s_g_f ?_ | refine s_g_f' ?_ | refine s_g_u ?_) | (refine g_pick ?_; first | refine s_pick_t ?_ | refine s_pick_f ?_) | (refine g_slc ?_; ((first | refine s_slcB ?_ | refine s_slcB01 ?_ | refine s_slcB10 ?_); intro us hus hbs)) | (refine g_pure ?_; first | refine s_eqP ?_ | refine s_slcAq ?_ | refine s_eqD ?_ | refine s_naddc ?_ | refine s_nadd ?_ | refine s_naddL ?_ | refine s_nilck ?_ | refine s_fptr0 ?_ | refine s_pure ?_ | refine s_saddB ?_) | (refine g_hload ?_; refine s_hloadP ?_)) | (with_reducible refine i_vc ?_; first | refine v_seq ?_ | refine v_ops ?_ | (refine g_cond ?_; first | refine s_cond_t ?_ | refine s_cond_f ?_) | refine v_skip ?_ | refine v_ret ?_ | refine s_drawl ?_ | refine v_draw0 ?_) | (with_reducible refine i_plan ?_; first | refine p_done ?_ | refine s_pre ?_ | refine s_preN ?_ | refine s_ag_t ?_ | refine s_ag_f ?_ | refine s_alt ?_ | refine p_alt ?_ ?_) | (with_reducible first | refine n_then ?_ | refine r_then ?_ | refine e_then ?_ | (refine g_stand ?_; first | refine s_stand ?_ | refine s_standL ?_)) | ((with_reducible first | refine s_g_c ?_ ?_ | refine s_cond_c ?_ ?_ | refine s_tg_c ?_ ?_ | refine s_ag_c ?_ ?_) <;> intro hb <;> rw [hb] <;> (try simp only [decide_eq_true_eq, decide_eq_false_iff_not, beq_iff_eq, bne_iff_ne, beq_eq_false_iff_ne, bne_eq_false_iff_eq, ne_eq, Int.not_lt, Int.not_le, gt_iff_lt, ge_iff_le, Bool.not_eq_true', Bool.not_eq_false'] at hb)) | ((with_reducible first | refine s_retP1 ?_ | refine s_retP2 ?_ | refine s_ret ?_ | refine s_normal ?_); try simp only [x_tup0, x_tup1, x_tup2, x_tup3, x_tup4, x_tup5, and_true, true_and])))
    refine o_appendO (by with_unfolding_all rfl) (by with_unfolding_all rfl) q2' (Sl.le hby q1) (cells1_bytes _) rfl q1 (by rw [By.len q2'.sl, By.len hby, hy]; exact ⟨.inl (by simp [hx]), by simp [hx]⟩) ?_
    intro w5 G5 r1 r2 r3 r4 r5
    have r2' : Own 1 G' G5 w5 ((4 :: (x ++ y)).map bv) := by
      have : (4 :: (x ++ y) : List UInt8) = ([4] ++ x) ++ y := by simp
      rw [this, List.map_append]; exact r2
    (repeat' (first | (with_reducible refine i_ops ?_; first | (refine g_mv ?_; refine s_mv ?_) | refine o_nil ?_ | (refine g_some ?_; first | refine s_g_t ?_ | refine s_g_f ?_ | refine s_g_f' ?_ | refine s_g_u ?_) | (refine g_pick ?_; first | refine s_pick_t ?_ | refine s_pick_f ?_) | (refine g_slc ?_; ((first | refine s_slcB ?_ | refine s_slcB01 ?_ | refine s_slcB10 ?_); intro us hus hbs)) | (refine g_pure ?_; first | refine s_eqP ?_ | refine s_slcAq ?_ | refine s_eqD ?_ | refine s_naddc ?_ | refine s_nadd ?_ | refine s_naddL ?_ | refine s_nilck ?_ | refine s_fptr0 ?_ | refine s_pure ?_ | refine s_saddB ?_) | (refine g_hload ?_; refine s_hloadP ?_)) | (with_reducible refine i_vc ?_; first | refine v_seq ?_ | refine v_ops ?_ | (refine g_cond ?_; first | refine s_cond_t ?_ | refine s_cond_f ?_) | refine v_skip ?_ | refine v_ret ?_ | refine s_drawl ?_ | refine v_draw0 ?_) | (with_reducible refine i_plan ?_; first | refine p_done ?_ | refine s_pre ?_ | refine s_preN ?_ | refine s_ag_t ?_ | refine s_ag_f ?_ | refine s_alt ?_ | refine p_alt ?_ ?_) | (with_reducible first | refine n_then ?_ | refine r_then ?_ | refine e_then ?_ | (refine g_stand ?_; first | refine s_stand ?_ | refine s_standL ?_)) | ((with_reducible first | refine s_g_c ?_ ?_ | refine s_cond_c ?_ ?_ | refine s_tg_c ?_ ?_ | refine s_ag_c ?_ ?_) <;> intro hb <;> rw [hb] <;> (try simp only [decide_eq_true_eq, decide_eq_false_iff_not, beq_iff_eq, bne_iff_ne, beq_eq_false_iff_ne, bne_eq_false_iff_eq, ne_eq, Int.not_lt, Int.not_le, gt_iff_lt, ge_iff_le, Bool.not_eq_true', Bool.not_eq_false'] at hb)) | ((with_reducible first | refine s_retP1 ?_ | refine s_retP2 ?_ | refine s_ret ?_ | refine s_normal ?_); try simp only [x_tup0, x_tup1, x_tup2, x_tup3, x_tup4, x_tup5, and_true, true_and])))
    exact ⟨(by first | assumption | exact GH.le_refl _ | ((repeat (first | exact GH.le_refl _ | assumption | refine GH.le_trans ?_ (by assumption))); first | done | fail)), _, rfl, r2'.base (by first | assumption | exact GH.le_refl _ | ((repeat (first | exact GH.le_refl _ | assumption | refine GH.le_trans ?_ (by assumption))); first | done | fail))⟩
end Go.Proofs.Ytdeihgcgglhhcaa.V
