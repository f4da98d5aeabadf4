/- What units do on the heap. -/
import Derived.Test.YtbmhdmkmnhaffaaSYZCPCG
section
set_option linter.unusedVariables false
set_option linter.unusedSimpArgs false
-- @pre g_hload s_hbx s_d0 s_d1 s_d2 s_d3 s_d4 s_d5 s_d6
-- @extra s_nilPf s_nilPt s_nilNf s_nilNt s_nilck s_fptr0 s_seq0 s_lenSB
namespace Go.Proofs.Ytbmhdmkmnhaffaa.V
open Go.RowKit Go.ChangeShapes Go.WideShapes
/-- What lies behind since G is taken to what is never written. -/
def addF (I G G1 : GH) : GH := fun c => match I c with | some o => some o | none => match G c with | none => G1 c | some _ => none
theorem addF_le (I G G1 : GH) : I.le (addF I G G1) := fun c o h => by simp only [addF, h]
theorem addF_le2 {I G G1 : GH} (h : I.le G1) : (addF I G G1).le G1 := fun c o hc => by
  unfold addF at hc
  cases hi : I c with
  | some o' => rw [hi] at hc; cases hc; exact h c _ hi
  | none =>
    rw [hi] at hc
    cases hg : G c with
    | none => rw [hg] at hc; exact hc
    | some _ => rw [hg] at hc; cases hc
theorem addF_none {I G G1 : GH} {c : Nat} {o : Obj} (hi : I c = none) (hg : G c = some o) : addF I G G1 c = none := by simp only [addF, hi, hg]
theorem addF_new {I G G1 : GH} {c : Nat} (hi : I c = none) (hg : G c = none) : addF I G G1 c = G1 c := by simp only [addF, hi, hg]
theorem addF_in {I G G1 : GH} {c : Nat} (h : addF I G G1 c ≠ none) : I c ≠ none ∨ G c = none := by
  unfold addF at h
  cases hi : I c with
  | some o => exact .inl (by simp)
  | none =>
    rw [hi] at h
    cases hg : G c with
    | none => exact .inr rfl
    | some _ => rw [hg] at h; exact absurd rfl h
/-- A row that is new since G is never written. -/
theorem own_addF {n : Nat} {I G G0 G1 : GH} {u : Value} {xs : List Value} (hI : I.le G) (hG : G.le G0) (h : Own n G0 G1 u xs) : Sl n (addF I G G1) u xs := by
  refine h.sl.keep fun b hb o ho => ?_
  obtain ⟨o', h1, h2⟩ := h.at_ hb
  have g0 : G b = none := le_none hG h2
  rw [addF_new (le_none hI g0) g0]
  exact ho
/-- A unit's function. -/
def UnitV (I : GH) (fv : Value) : AU → Prop
  | .app s bs _ => ∃ nb ab w tn ta, fv = .func (.func 52) #[] #[pt nb, pt ab] ∧ I nb = some (bx (sv s) tn) ∧ I ab = some (bx w ta) ∧ By I w bs
  | .repl s s' => ∃ nb nb' tn tn', fv = .func (.func 53) #[] #[pt nb, pt nb'] ∧ I nb = some (bx (sv s) tn) ∧ I nb' = some (bx (sv s') tn')
  | .rem s => ∃ nb tn, fv = .func (.func 54) #[] #[pt nb] ∧ I nb = some (bx (sv s) tn)
  | .cut s n => ∃ nb kb tn tk, fv = .func (.func 55) #[] #[pt nb, pt kb] ∧ I nb = some (bx (sv s) tn) ∧ I kb = some (bx (.int .i64 n) tk)
theorem UnitV.le {I I' : GH} {fv : Value} {u : AU} (h : UnitV I fv u) (hl : I.le I') : UnitV I' fv u := by
  cases u with
  | app s bs k => obtain ⟨nb, ab, w, tn, ta, h1, h2, h3, h4⟩ := h; exact ⟨nb, ab, w, tn, ta, h1, hl _ _ h2, hl _ _ h3, Sl.le h4 hl⟩
  | repl s s' => obtain ⟨nb, ab, tn, ta, h1, h2, h3⟩ := h; exact ⟨nb, ab, tn, ta, h1, hl _ _ h2, hl _ _ h3⟩
  | rem s => obtain ⟨nb, tn, h1, h2⟩ := h; exact ⟨nb, tn, h1, hl _ _ h2⟩
  | cut s n => obtain ⟨nb, ab, tn, ta, h1, h2, h3⟩ := h; exact ⟨nb, ab, tn, ta, h1, hl _ _ h2, hl _ _ h3⟩
/-- The value that a look-up gives. -/
theorem MR.look {I : GH} {m : AM} {fs : Fis} (h : MR I m fs) (s : Nm) : ∃ v, lookV false (.slice none 0 0) (lkI s m 0) = v ∧ By I v (fg s fs) := by
  have e := lkI_lk s m 0
  unfold fg
  rcases h s with ⟨v, bs, h1, h2, h3⟩ | ⟨h1, h2⟩
  · rw [h1] at e
    rw [h2]
    cases hq : lkI s m 0 with
    | none => rw [hq] at e; cases e
    | some r => rw [hq] at e; exact ⟨v, by simpa [lookV] using e, h3⟩
  · rw [h1] at e
    rw [h2]
    cases hq : lkI s m 0 with
    | none => exact ⟨_, rfl, Sl.nil 1 I⟩
    | some r => rw [hq] at e; cases e
theorem le_put_unp {G : GH} {b : Nat} {o : Obj} : (unp G b).le (G.put b o) := fun c o' h => by
  by_cases e : c = b
  · subst e; rw [unp_self] at h; cases h
  · rw [GH.put_ne _ _ e]; rw [unp_ne e] at h; exact h
/-- What s[:n:n] gives. -/
theorem By.slc011 {G : GH} {u : Value} {bs : Bs} (h : By G u bs) {k k' : IntKind} {j : Nat} (h2 : j ≤ bs.length) : ∃ u', pureV (.slc 1 false true true) [u, .int k j, .int k' j] = some u' ∧ By G u' (bs.take j) := by
  have hl := By.len h
  have hr := h.rd
  obtain ⟨a, cap, e1, e2, e3, e4, e5⟩ := Sl.slice h
  rw [hl] at e1
  subst e1
  have hc : cutV bs.length cap none (some (j : Int)) (some (j : Int)) = some (0, j, j) := by
    simp only [cutV, Option.getD_none]
    rw [if_pos ⟨Int.le_refl _, by omega, Int.le_refl _, by simp only [lenS] at e2; omega⟩]
    rfl
  refine ⟨.slice (addO a 0 j 1) (j - 0) (j - 0), ?_, ?_⟩
  · simp only [pureV, bnds, Option.bind_some, hc, Option.map_some]
  · rw [Nat.sub_zero]
    by_cases hj : j = 0
    · subst hj
      refine ⟨?_, Nat.le_refl _, by omega⟩
      rw [List.take_zero]
      cases addO a 0 0 1 with
      | none => rfl
      | some x => obtain ⟨b, q, sp⟩ := x; cases sp <;> simp [V.rd]
    · obtain ⟨b, q, rfl⟩ := e5 (by simp only [lenS]; omega)
      have ha : addO (some (⟨b, q, none⟩ : Addr)) 0 j 1 = some ⟨b, q, none⟩ := by
        simp only [addO, if_neg hj, Option.map_some, Addr.add]
        rfl
      rw [ha]
      refine ⟨?_, Nat.le_refl _, by simp only [lenS] at e2; omega⟩
      rcases rd_some hr with ⟨hz, _⟩ | ⟨hz, cs, e, fr, hG, hs, hx⟩
      · omega
      · rw [rd_of hG (by omega)]
        congr 1
        rw [List.map_take, hx]
        apply List.ext_getElem?
        intro i
        simp only [Array.toList_extract, List.extract_eq_take_drop, List.getElem?_take, List.getElem?_drop]
        by_cases hi : i < j
        · rw [if_pos (by omega), if_pos hi, if_pos (by omega)]
        · rw [if_neg (by omega), if_neg hi]
/-- The map behind a unit. -/
def Aft (I G : GH) (mb : Nat) (fs : Fis) (G' : GH) : Prop := ∃ I' mo' m', I.le I' ∧ I'.le G' ∧ G' mb = some mo' ∧ MapO mo' m' ∧ MR I' m' fs ∧ I' mb = none ∧ (∀ c o, c ≠ mb → G c = some o → G' c = some o) ∧ (∀ c, I' c ≠ none → I c ≠ none ∨ G c = none)
theorem aft_same {I G : GH} {mb : Nat} {mo' : Obj} {m' : AM} {fs : Fis} (hI : I.le G) (hn : I mb = none) (hm : MapO mo' m') (hr : MR I m' fs) : Aft I G mb fs (G.put mb mo') :=
  ⟨I, mo', m', GH.le_refl _, le_but hI hn (fun c hc => GH.put_ne _ _ hc), GH.put_same _ _ _, hm, hr, hn, fun c o hc h => by rw [GH.put_ne _ _ hc]; exact h, fun c h => .inl h⟩
section
variable {I G : GH} {mb : Nat} {mo : Obj} {m : AM} {fs : Fis} {k : Int}
theorem rem1 (s : Nm) (nb tn : Nat) (hI : I.le G) (hb : I nb = some (bx (sv s) tn)) (hg : G mb = some mo) (hm : MapO mo m) (hr : MR I m fs) (hn : I mb = none) :
    HC Try.prog 54 #[.map (some mb), .int .i64 k, pt nb] G fun v G' => Aft I G mb ((AU.rem s).ap 1 fs) G' := by
  have h1 := hI _ _ hb
  refine HC.start comp54 rfl ?_; unfold pc54
  (repeat' (first | (with_reducible refine i_ops ?_; first | (refine g_mv ?_; refine s_mv ?_) | refine o_nil ?_ | (refine g_slc ?_; ((first | refine s_slcB ?_ | refine s_slcB01 ?_ | refine s_slcB10 ?_); intro us hus hbs)) | (refine g_pure ?_; first | refine s_nilPf ?_ | refine s_nilPt ?_ | refine s_nilNf ?_ | refine s_nilNt ?_ | refine s_nilck ?_ | refine s_fptr0 ?_ | refine s_seq0 ?_ | refine s_lenSB ?_ | refine s_pure ?_ | refine s_saddB ?_) | (refine g_hload ?_; first | refine s_hbx ?_ | refine s_d0 ?_ | refine s_d1 ?_ | refine s_d2 ?_ | refine s_d3 ?_ | refine s_d4 ?_ | refine s_d5 ?_ | refine s_d6 ?_ | refine s_hloadP ?_)) | (with_reducible refine i_vc ?_; first | refine v_seq ?_ | refine v_ops ?_ | (refine g_cond ?_; first | refine s_cond_t ?_ | refine s_cond_f ?_) | refine v_skip ?_ | refine v_ret ?_ | refine s_drawl ?_ | refine v_draw0 ?_) | (with_reducible refine i_plan ?_; first | refine p_done ?_ | refine s_pre ?_ | refine s_preN ?_ | refine s_ag_t ?_ | refine s_ag_f ?_ | refine s_alt ?_ | refine p_alt ?_ ?_) | (with_reducible first | refine n_then ?_ | refine r_then ?_ | refine e_then ?_ | (refine g_stand ?_; first | refine s_stand ?_ | refine s_standL ?_)) | ((with_reducible first | refine s_cond_c ?_ ?_) <;> intro hb <;> rw [hb] <;> (try simp only [decide_eq_true_eq, decide_eq_false_iff_not, beq_iff_eq, bne_iff_ne, beq_eq_false_iff_ne, bne_eq_false_iff_eq, ne_eq, Int.not_lt, Int.not_le, gt_iff_lt, ge_iff_le, Bool.not_eq_true', Bool.not_eq_false'] at hb)) | ((with_reducible first | refine s_ret ?_ | refine s_normal ?_); try simp only [x_tup0, x_tup1, x_tup2, x_tup3, x_tup4, x_tup5, and_true, true_and])))
  refine o_mdel (s := s) qrf qrf hg hm ?_
  intro o' ho'
  (repeat' (first | (with_reducible refine i_ops ?_; first | (refine g_mv ?_; refine s_mv ?_) | refine o_nil ?_ | (refine g_slc ?_; ((first | refine s_slcB ?_ | refine s_slcB01 ?_ | refine s_slcB10 ?_); intro us hus hbs)) | (refine g_pure ?_; first | refine s_nilPf ?_ | refine s_nilPt ?_ | refine s_nilNf ?_ | refine s_nilNt ?_ | refine s_nilck ?_ | refine s_fptr0 ?_ | refine s_seq0 ?_ | refine s_lenSB ?_ | refine s_pure ?_ | refine s_saddB ?_) | (refine g_hload ?_; first | refine s_hbx ?_ | refine s_d0 ?_ | refine s_d1 ?_ | refine s_d2 ?_ | refine s_d3 ?_ | refine s_d4 ?_ | refine s_d5 ?_ | refine s_d6 ?_ | refine s_hloadP ?_)) | (with_reducible refine i_vc ?_; first | refine v_seq ?_ | refine v_ops ?_ | (refine g_cond ?_; first | refine s_cond_t ?_ | refine s_cond_f ?_) | refine v_skip ?_ | refine v_ret ?_ | refine s_drawl ?_ | refine v_draw0 ?_) | (with_reducible refine i_plan ?_; first | refine p_done ?_ | refine s_pre ?_ | refine s_preN ?_ | refine s_ag_t ?_ | refine s_ag_f ?_ | refine s_alt ?_ | refine p_alt ?_ ?_) | (with_reducible first | refine n_then ?_ | refine r_then ?_ | refine e_then ?_ | (refine g_stand ?_; first | refine s_stand ?_ | refine s_standL ?_)) | ((with_reducible first | refine s_cond_c ?_ ?_) <;> intro hb <;> rw [hb] <;> (try simp only [decide_eq_true_eq, decide_eq_false_iff_not, beq_iff_eq, bne_iff_ne, beq_eq_false_iff_ne, bne_eq_false_iff_eq, ne_eq, Int.not_lt, Int.not_le, gt_iff_lt, ge_iff_le, Bool.not_eq_true', Bool.not_eq_false'] at hb)) | ((with_reducible first | refine s_ret ?_ | refine s_normal ?_); try simp only [x_tup0, x_tup1, x_tup2, x_tup3, x_tup4, x_tup5, and_true, true_and])))
  exact aft_same hI hn ho' (hr.del hm.nodup s)
theorem repl1 (s s' : Nm) (nb nb' tn tn' : Nat) (hI : I.le G) (hb : I nb = some (bx (sv s) tn)) (hb' : I nb' = some (bx (sv s') tn')) (hg : G mb = some mo) (hm : MapO mo m) (hr : MR I m fs) (hn : I mb = none) :
    HC Try.prog 53 #[.map (some mb), .int .i64 k, pt nb, pt nb'] G fun v G' => Aft I G mb ((AU.repl s s').ap 1 fs) G' := by
  have h1 := hI _ _ hb
  have h2 := hI _ _ hb'
  obtain ⟨v, hv, hby⟩ := hr.look s
  refine HC.start comp53 rfl ?_; unfold pc53
  (repeat' (first | (with_reducible refine i_ops ?_; first | (refine g_mv ?_; refine s_mv ?_) | refine o_nil ?_ | (refine g_slc ?_; ((first | refine s_slcB ?_ | refine s_slcB01 ?_ | refine s_slcB10 ?_); intro us hus hbs)) | (refine g_pure ?_; first | refine s_nilPf ?_ | refine s_nilPt ?_ | refine s_nilNf ?_ | refine s_nilNt ?_ | refine s_nilck ?_ | refine s_fptr0 ?_ | refine s_seq0 ?_ | refine s_lenSB ?_ | refine s_pure ?_ | refine s_saddB ?_) | (refine g_hload ?_; first | refine s_hbx ?_ | refine s_d0 ?_ | refine s_d1 ?_ | refine s_d2 ?_ | refine s_d3 ?_ | refine s_d4 ?_ | refine s_d5 ?_ | refine s_d6 ?_ | refine s_hloadP ?_)) | (with_reducible refine i_vc ?_; first | refine v_seq ?_ | refine v_ops ?_ | (refine g_cond ?_; first | refine s_cond_t ?_ | refine s_cond_f ?_) | refine v_skip ?_ | refine v_ret ?_ | refine s_drawl ?_ | refine v_draw0 ?_) | (with_reducible refine i_plan ?_; first | refine p_done ?_ | refine s_pre ?_ | refine s_preN ?_ | refine s_ag_t ?_ | refine s_ag_f ?_ | refine s_alt ?_ | refine p_alt ?_ ?_) | (with_reducible first | refine n_then ?_ | refine r_then ?_ | refine e_then ?_ | (refine g_stand ?_; first | refine s_stand ?_ | refine s_standL ?_)) | ((with_reducible first | refine s_cond_c ?_ ?_) <;> intro hb <;> rw [hb] <;> (try simp only [decide_eq_true_eq, decide_eq_false_iff_not, beq_iff_eq, bne_iff_ne, beq_eq_false_iff_ne, bne_eq_false_iff_eq, ne_eq, Int.not_lt, Int.not_le, gt_iff_lt, ge_iff_le, Bool.not_eq_true', Bool.not_eq_false'] at hb)) | ((with_reducible first | refine s_ret ?_ | refine s_normal ?_); try simp only [x_tup0, x_tup1, x_tup2, x_tup3, x_tup4, x_tup5, and_true, true_and])))
  refine o_mlook (s := s) qrf qrf hg hm ?_
  rw [hv]
  (repeat' (first | (with_reducible refine i_ops ?_; first | (refine g_mv ?_; refine s_mv ?_) | refine o_nil ?_ | (refine g_slc ?_; ((first | refine s_slcB ?_ | refine s_slcB01 ?_ | refine s_slcB10 ?_); intro us hus hbs)) | (refine g_pure ?_; first | refine s_nilPf ?_ | refine s_nilPt ?_ | refine s_nilNf ?_ | refine s_nilNt ?_ | refine s_nilck ?_ | refine s_fptr0 ?_ | refine s_seq0 ?_ | refine s_lenSB ?_ | refine s_pure ?_ | refine s_saddB ?_) | (refine g_hload ?_; first | refine s_hbx ?_ | refine s_d0 ?_ | refine s_d1 ?_ | refine s_d2 ?_ | refine s_d3 ?_ | refine s_d4 ?_ | refine s_d5 ?_ | refine s_d6 ?_ | refine s_hloadP ?_)) | (with_reducible refine i_vc ?_; first | refine v_seq ?_ | refine v_ops ?_ | (refine g_cond ?_; first | refine s_cond_t ?_ | refine s_cond_f ?_) | refine v_skip ?_ | refine v_ret ?_ | refine s_drawl ?_ | refine v_draw0 ?_) | (with_reducible refine i_plan ?_; first | refine p_done ?_ | refine s_pre ?_ | refine s_preN ?_ | refine s_ag_t ?_ | refine s_ag_f ?_ | refine s_alt ?_ | refine p_alt ?_ ?_) | (with_reducible first | refine n_then ?_ | refine r_then ?_ | refine e_then ?_ | (refine g_stand ?_; first | refine s_stand ?_ | refine s_standL ?_)) | ((with_reducible first | refine s_cond_c ?_ ?_) <;> intro hb <;> rw [hb] <;> (try simp only [decide_eq_true_eq, decide_eq_false_iff_not, beq_iff_eq, bne_iff_ne, beq_eq_false_iff_ne, bne_eq_false_iff_eq, ne_eq, Int.not_lt, Int.not_le, gt_iff_lt, ge_iff_le, Bool.not_eq_true', Bool.not_eq_false'] at hb)) | ((with_reducible first | refine s_ret ?_ | refine s_normal ?_); try simp only [x_tup0, x_tup1, x_tup2, x_tup3, x_tup4, x_tup5, and_true, true_and])))
  refine o_mdel (s := s) qrf qrf hg hm ?_
  intro o' ho'
  have e1 : nb ≠ mb := fun e => by subst e; rw [hn] at hb; cases hb
  have e2 : nb' ≠ mb := fun e => by subst e; rw [hn] at hb'; cases hb'
  have h2' : (G.put mb o') nb' = some (bx (sv s') tn') := by rw [GH.put_ne _ _ e2]; exact h2
  have g' : (G.put mb o') mb = some o' := GH.put_same _ _ _
  (repeat' (first | (with_reducible refine i_ops ?_; first | (refine g_mv ?_; refine s_mv ?_) | refine o_nil ?_ | (refine g_slc ?_; ((first | refine s_slcB ?_ | refine s_slcB01 ?_ | refine s_slcB10 ?_); intro us hus hbs)) | (refine g_pure ?_; first | refine s_nilPf ?_ | refine s_nilPt ?_ | refine s_nilNf ?_ | refine s_nilNt ?_ | refine s_nilck ?_ | refine s_fptr0 ?_ | refine s_seq0 ?_ | refine s_lenSB ?_ | refine s_pure ?_ | refine s_saddB ?_) | (refine g_hload ?_; first | refine s_hbx ?_ | refine s_d0 ?_ | refine s_d1 ?_ | refine s_d2 ?_ | refine s_d3 ?_ | refine s_d4 ?_ | refine s_d5 ?_ | refine s_d6 ?_ | refine s_hloadP ?_)) | (with_reducible refine i_vc ?_; first | refine v_seq ?_ | refine v_ops ?_ | (refine g_cond ?_; first | refine s_cond_t ?_ | refine s_cond_f ?_) | refine v_skip ?_ | refine v_ret ?_ | refine s_drawl ?_ | refine v_draw0 ?_) | (with_reducible refine i_plan ?_; first | refine p_done ?_ | refine s_pre ?_ | refine s_preN ?_ | refine s_ag_t ?_ | refine s_ag_f ?_ | refine s_alt ?_ | refine p_alt ?_ ?_) | (with_reducible first | refine n_then ?_ | refine r_then ?_ | refine e_then ?_ | (refine g_stand ?_; first | refine s_stand ?_ | refine s_standL ?_)) | ((with_reducible first | refine s_cond_c ?_ ?_) <;> intro hb <;> rw [hb] <;> (try simp only [decide_eq_true_eq, decide_eq_false_iff_not, beq_iff_eq, bne_iff_ne, beq_eq_false_iff_ne, bne_eq_false_iff_eq, ne_eq, Int.not_lt, Int.not_le, gt_iff_lt, ge_iff_le, Bool.not_eq_true', Bool.not_eq_false'] at hb)) | ((with_reducible first | refine s_ret ?_ | refine s_normal ?_); try simp only [x_tup0, x_tup1, x_tup2, x_tup3, x_tup4, x_tup5, and_true, true_and])))
  refine o_mput (s := s') (y := v) qrf qrf qrf g' ho' ?_
  intro o2 ho2
  (repeat' (first | (with_reducible refine i_ops ?_; first | (refine g_mv ?_; refine s_mv ?_) | refine o_nil ?_ | (refine g_slc ?_; ((first | refine s_slcB ?_ | refine s_slcB01 ?_ | refine s_slcB10 ?_); intro us hus hbs)) | (refine g_pure ?_; first | refine s_nilPf ?_ | refine s_nilPt ?_ | refine s_nilNf ?_ | refine s_nilNt ?_ | refine s_nilck ?_ | refine s_fptr0 ?_ | refine s_seq0 ?_ | refine s_lenSB ?_ | refine s_pure ?_ | refine s_saddB ?_) | (refine g_hload ?_; first | refine s_hbx ?_ | refine s_d0 ?_ | refine s_d1 ?_ | refine s_d2 ?_ | refine s_d3 ?_ | refine s_d4 ?_ | refine s_d5 ?_ | refine s_d6 ?_ | refine s_hloadP ?_)) | (with_reducible refine i_vc ?_; first | refine v_seq ?_ | refine v_ops ?_ | (refine g_cond ?_; first | refine s_cond_t ?_ | refine s_cond_f ?_) | refine v_skip ?_ | refine v_ret ?_ | refine s_drawl ?_ | refine v_draw0 ?_) | (with_reducible refine i_plan ?_; first | refine p_done ?_ | refine s_pre ?_ | refine s_preN ?_ | refine s_ag_t ?_ | refine s_ag_f ?_ | refine s_alt ?_ | refine p_alt ?_ ?_) | (with_reducible first | refine n_then ?_ | refine r_then ?_ | refine e_then ?_ | (refine g_stand ?_; first | refine s_stand ?_ | refine s_standL ?_)) | ((with_reducible first | refine s_cond_c ?_ ?_) <;> intro hb <;> rw [hb] <;> (try simp only [decide_eq_true_eq, decide_eq_false_iff_not, beq_iff_eq, bne_iff_ne, beq_eq_false_iff_ne, bne_eq_false_iff_eq, ne_eq, Int.not_lt, Int.not_le, gt_iff_lt, ge_iff_le, Bool.not_eq_true', Bool.not_eq_false'] at hb)) | ((with_reducible first | refine s_ret ?_ | refine s_normal ?_); try simp only [x_tup0, x_tup1, x_tup2, x_tup3, x_tup4, x_tup5, and_true, true_and])))
  have ep : (G.put mb o').put mb o2 = G.put mb o2 := by
    funext c
    by_cases e : c = mb
    · subst e; rw [GH.put_same, GH.put_same]
    · rw [GH.put_ne _ _ e, GH.put_ne _ _ e, GH.put_ne _ _ e]
  rw [ep]
  exact aft_same hI hn ho2 ((hr.del hm.nodup s).put hby s')
theorem cut1 (s : Nm) (n nb kb tn tk : Nat) (hI : I.le G) (hb : I nb = some (bx (sv s) tn)) (hb' : I kb = some (bx (.int .i64 n) tk)) (hg : G mb = some mo) (hm : MapO mo m) (hr : MR I m fs) (hn : I mb = none) (hok : n ≤ (fg s fs).length) :
    HC Try.prog 55 #[.map (some mb), .int .i64 k, pt nb, pt kb] G fun v G' => Aft I G mb ((AU.cut s n).ap 1 fs) G' := by
  have h1 : (unp G mb) nb = some (bx (sv s) tn) := by rw [unp_ne (fun e => by subst e; rw [hn] at hb; cases hb)]; exact hI _ _ hb
  have h2 : (unp G mb) kb = some (bx (.int .i64 n) tk) := by rw [unp_ne (fun e => by subst e; rw [hn] at hb'; cases hb')]; exact hI _ _ hb'
  obtain ⟨v, hv, hby⟩ := hr.look s
  obtain ⟨a, len, cap, rfl⟩ := hby.shape
  have hlen := By.len hby
  have hlm := By.len_le hby
  refine HC.start comp55 rfl ?_; unfold pc55
  refine v_drawG (unp G mb) (unp_le _ _) ?_
  refine p_preG qrf ?_
  (repeat' (first | (with_reducible refine i_ops ?_; first | (refine g_mv ?_; refine s_mv ?_) | refine o_nil ?_ | (refine g_slc ?_; ((first | refine s_slcB ?_ | refine s_slcB01 ?_ | refine s_slcB10 ?_); intro us hus hbs)) | (refine g_pure ?_; first | refine s_nilPf ?_ | refine s_nilPt ?_ | refine s_nilNf ?_ | refine s_nilNt ?_ | refine s_nilck ?_ | refine s_fptr0 ?_ | refine s_seq0 ?_ | refine s_lenSB ?_ | refine s_pure ?_ | refine s_saddB ?_) | (refine g_hload ?_; first | refine s_hbx ?_ | refine s_d0 ?_ | refine s_d1 ?_ | refine s_d2 ?_ | refine s_d3 ?_ | refine s_d4 ?_ | refine s_d5 ?_ | refine s_d6 ?_ | refine s_hloadP ?_)) | (with_reducible refine i_vc ?_; first | refine v_seq ?_ | refine v_ops ?_ | (refine g_cond ?_; first | refine s_cond_t ?_ | refine s_cond_f ?_) | refine v_skip ?_ | refine v_ret ?_ | refine s_drawl ?_ | refine v_draw0 ?_) | (with_reducible refine i_plan ?_; first | refine p_done ?_ | refine s_pre ?_ | refine s_preN ?_ | refine s_ag_t ?_ | refine s_ag_f ?_ | refine s_alt ?_ | refine p_alt ?_ ?_) | (with_reducible first | refine n_then ?_ | refine r_then ?_ | refine e_then ?_ | (refine g_stand ?_; first | refine s_stand ?_ | refine s_standL ?_)) | ((with_reducible first | refine s_cond_c ?_ ?_) <;> intro hb <;> rw [hb] <;> (try simp only [decide_eq_true_eq, decide_eq_false_iff_not, beq_iff_eq, bne_iff_ne, beq_eq_false_iff_ne, bne_eq_false_iff_eq, ne_eq, Int.not_lt, Int.not_le, gt_iff_lt, ge_iff_le, Bool.not_eq_true', Bool.not_eq_false'] at hb)) | ((with_reducible first | refine s_ret ?_ | refine s_normal ?_); try simp only [x_tup0, x_tup1, x_tup2, x_tup3, x_tup4, x_tup5, and_true, true_and])))
  refine k_back ?_
  (repeat' (first | (with_reducible refine i_ops ?_; first | (refine g_mv ?_; refine s_mv ?_) | refine o_nil ?_ | (refine g_slc ?_; ((first | refine s_slcB ?_ | refine s_slcB01 ?_ | refine s_slcB10 ?_); intro us hus hbs)) | (refine g_pure ?_; first | refine s_nilPf ?_ | refine s_nilPt ?_ | refine s_nilNf ?_ | refine s_nilNt ?_ | refine s_nilck ?_ | refine s_fptr0 ?_ | refine s_seq0 ?_ | refine s_lenSB ?_ | refine s_pure ?_ | refine s_saddB ?_) | (refine g_hload ?_; first | refine s_hbx ?_ | refine s_d0 ?_ | refine s_d1 ?_ | refine s_d2 ?_ | refine s_d3 ?_ | refine s_d4 ?_ | refine s_d5 ?_ | refine s_d6 ?_ | refine s_hloadP ?_)) | (with_reducible refine i_vc ?_; first | refine v_seq ?_ | refine v_ops ?_ | (refine g_cond ?_; first | refine s_cond_t ?_ | refine s_cond_f ?_) | refine v_skip ?_ | refine v_ret ?_ | refine s_drawl ?_ | refine v_draw0 ?_) | (with_reducible refine i_plan ?_; first | refine p_done ?_ | refine s_pre ?_ | refine s_preN ?_ | refine s_ag_t ?_ | refine s_ag_f ?_ | refine s_alt ?_ | refine p_alt ?_ ?_) | (with_reducible first | refine n_then ?_ | refine r_then ?_ | refine e_then ?_ | (refine g_stand ?_; first | refine s_stand ?_ | refine s_standL ?_)) | ((with_reducible first | refine s_cond_c ?_ ?_) <;> intro hb <;> rw [hb] <;> (try simp only [decide_eq_true_eq, decide_eq_false_iff_not, beq_iff_eq, bne_iff_ne, beq_eq_false_iff_ne, bne_eq_false_iff_eq, ne_eq, Int.not_lt, Int.not_le, gt_iff_lt, ge_iff_le, Bool.not_eq_true', Bool.not_eq_false'] at hb)) | ((with_reducible first | refine s_ret ?_ | refine s_normal ?_); try simp only [x_tup0, x_tup1, x_tup2, x_tup3, x_tup4, x_tup5, and_true, true_and])))
  refine o_mlook (s := s) qrf qrf hg hm ?_
  rw [hv]
  obtain ⟨u', e1, e2⟩ := By.slc011 hby (k := .i64) (k' := .i64) hok
  have hup : (unp G mb).le G := unp_le G mb
  refine s_stand ?_
  (repeat' (first | (with_reducible refine i_ops ?_; first | (refine g_mv ?_; refine s_mv ?_) | refine o_nil ?_ | (refine g_slc ?_; ((first | refine s_slcB ?_ | refine s_slcB01 ?_ | refine s_slcB10 ?_); intro us hus hbs)) | (refine g_pure ?_; first | refine s_nilPf ?_ | refine s_nilPt ?_ | refine s_nilNf ?_ | refine s_nilNt ?_ | refine s_nilck ?_ | refine s_fptr0 ?_ | refine s_seq0 ?_ | refine s_lenSB ?_ | refine s_pure ?_ | refine s_saddB ?_) | (refine g_hload ?_; first | refine s_hbx ?_ | refine s_d0 ?_ | refine s_d1 ?_ | refine s_d2 ?_ | refine s_d3 ?_ | refine s_d4 ?_ | refine s_d5 ?_ | refine s_d6 ?_ | refine s_hloadP ?_)) | (with_reducible refine i_vc ?_; first | refine v_seq ?_ | refine v_ops ?_ | (refine g_cond ?_; first | refine s_cond_t ?_ | refine s_cond_f ?_) | refine v_skip ?_ | refine v_ret ?_ | refine s_drawl ?_ | refine v_draw0 ?_) | (with_reducible refine i_plan ?_; first | refine p_done ?_ | refine s_pre ?_ | refine s_preN ?_ | refine s_ag_t ?_ | refine s_ag_f ?_ | refine s_alt ?_ | refine p_alt ?_ ?_) | (with_reducible first | refine n_then ?_ | refine r_then ?_ | refine e_then ?_ | (refine g_stand ?_; first | refine s_stand ?_ | refine s_standL ?_)) | ((with_reducible first | refine s_cond_c ?_ ?_) <;> intro hb <;> rw [hb] <;> (try simp only [decide_eq_true_eq, decide_eq_false_iff_not, beq_iff_eq, bne_iff_ne, beq_eq_false_iff_ne, bne_eq_false_iff_eq, ne_eq, Int.not_lt, Int.not_le, gt_iff_lt, ge_iff_le, Bool.not_eq_true', Bool.not_eq_false'] at hb)) | ((with_reducible first | refine s_ret ?_ | refine s_normal ?_); try simp only [x_tup0, x_tup1, x_tup2, x_tup3, x_tup4, x_tup5, and_true, true_and])))
  refine o_pure (vs := [.slice a len cap, .int .i64 n, .int .i64 n]) qrf e1 ?_
  (repeat' (first | (with_reducible refine i_ops ?_; first | (refine g_mv ?_; refine s_mv ?_) | refine o_nil ?_ | (refine g_slc ?_; ((first | refine s_slcB ?_ | refine s_slcB01 ?_ | refine s_slcB10 ?_); intro us hus hbs)) | (refine g_pure ?_; first | refine s_nilPf ?_ | refine s_nilPt ?_ | refine s_nilNf ?_ | refine s_nilNt ?_ | refine s_nilck ?_ | refine s_fptr0 ?_ | refine s_seq0 ?_ | refine s_lenSB ?_ | refine s_pure ?_ | refine s_saddB ?_) | (refine g_hload ?_; first | refine s_hbx ?_ | refine s_d0 ?_ | refine s_d1 ?_ | refine s_d2 ?_ | refine s_d3 ?_ | refine s_d4 ?_ | refine s_d5 ?_ | refine s_d6 ?_ | refine s_hloadP ?_)) | (with_reducible refine i_vc ?_; first | refine v_seq ?_ | refine v_ops ?_ | (refine g_cond ?_; first | refine s_cond_t ?_ | refine s_cond_f ?_) | refine v_skip ?_ | refine v_ret ?_ | refine s_drawl ?_ | refine v_draw0 ?_) | (with_reducible refine i_plan ?_; first | refine p_done ?_ | refine s_pre ?_ | refine s_preN ?_ | refine s_ag_t ?_ | refine s_ag_f ?_ | refine s_alt ?_ | refine p_alt ?_ ?_) | (with_reducible first | refine n_then ?_ | refine r_then ?_ | refine e_then ?_ | (refine g_stand ?_; first | refine s_stand ?_ | refine s_standL ?_)) | ((with_reducible first | refine s_cond_c ?_ ?_) <;> intro hb <;> rw [hb] <;> (try simp only [decide_eq_true_eq, decide_eq_false_iff_not, beq_iff_eq, bne_iff_ne, beq_eq_false_iff_ne, bne_eq_false_iff_eq, ne_eq, Int.not_lt, Int.not_le, gt_iff_lt, ge_iff_le, Bool.not_eq_true', Bool.not_eq_false'] at hb)) | ((with_reducible first | refine s_ret ?_ | refine s_normal ?_); try simp only [x_tup0, x_tup1, x_tup2, x_tup3, x_tup4, x_tup5, and_true, true_and])))
  refine o_mput (s := s) (y := u') qrf qrf qrf hg hm ?_
  intro o' ho'
  have hup' : (unp G mb).le (G.put mb o') := le_put_unp
  refine s_stand ?_
  (repeat' (first | (with_reducible refine i_ops ?_; first | (refine g_mv ?_; refine s_mv ?_) | refine o_nil ?_ | (refine g_slc ?_; ((first | refine s_slcB ?_ | refine s_slcB01 ?_ | refine s_slcB10 ?_); intro us hus hbs)) | (refine g_pure ?_; first | refine s_nilPf ?_ | refine s_nilPt ?_ | refine s_nilNf ?_ | refine s_nilNt ?_ | refine s_nilck ?_ | refine s_fptr0 ?_ | refine s_seq0 ?_ | refine s_lenSB ?_ | refine s_pure ?_ | refine s_saddB ?_) | (refine g_hload ?_; first | refine s_hbx ?_ | refine s_d0 ?_ | refine s_d1 ?_ | refine s_d2 ?_ | refine s_d3 ?_ | refine s_d4 ?_ | refine s_d5 ?_ | refine s_d6 ?_ | refine s_hloadP ?_)) | (with_reducible refine i_vc ?_; first | refine v_seq ?_ | refine v_ops ?_ | (refine g_cond ?_; first | refine s_cond_t ?_ | refine s_cond_f ?_) | refine v_skip ?_ | refine v_ret ?_ | refine s_drawl ?_ | refine v_draw0 ?_) | (with_reducible refine i_plan ?_; first | refine p_done ?_ | refine s_pre ?_ | refine s_preN ?_ | refine s_ag_t ?_ | refine s_ag_f ?_ | refine s_alt ?_ | refine p_alt ?_ ?_) | (with_reducible first | refine n_then ?_ | refine r_then ?_ | refine e_then ?_ | (refine g_stand ?_; first | refine s_stand ?_ | refine s_standL ?_)) | ((with_reducible first | refine s_cond_c ?_ ?_) <;> intro hb <;> rw [hb] <;> (try simp only [decide_eq_true_eq, decide_eq_false_iff_not, beq_iff_eq, bne_iff_ne, beq_eq_false_iff_ne, bne_eq_false_iff_eq, ne_eq, Int.not_lt, Int.not_le, gt_iff_lt, ge_iff_le, Bool.not_eq_true', Bool.not_eq_false'] at hb)) | ((with_reducible first | refine s_ret ?_ | refine s_normal ?_); try simp only [x_tup0, x_tup1, x_tup2, x_tup3, x_tup4, x_tup5, and_true, true_and])))
  exact aft_same hI hn ho' (hr.put e2 s)
theorem app1 (s : Nm) (bs : Bs) (j nb ab tn ta : Nat) (w : Value) (hI : I.le G) (hb : I nb = some (bx (sv s) tn)) (hb' : I ab = some (bx w ta)) (hw : By I w bs) (hg : G mb = some mo) (hm : MapO mo m) (hr : MR I m fs) (hn : I mb = none) (hj : 1 ≤ j ∧ j ≤ bs.length + 1) (hl : (fg s fs).length + (j - 1) ≤ 1099511627776) (i : Nat) :
    HC Try.prog 52 #[.map (some mb), .int .i64 j, pt nb, pt ab] G fun v G' => Aft I G mb ((AU.app s bs i).ap j fs) G' := by
  have h1 : (unp G mb) nb = some (bx (sv s) tn) := by rw [unp_ne (fun e => by subst e; rw [hn] at hb; cases hb)]; exact hI _ _ hb
  have h2 : (unp G mb) ab = some (bx w ta) := by rw [unp_ne (fun e => by subst e; rw [hn] at hb'; cases hb')]; exact hI _ _ hb'
  have hIu : I.le (unp G mb) := le_unp hI hn
  have hwu : By (unp G mb) w bs := Sl.le hw hIu
  obtain ⟨v, hv, hby⟩ := hr.look s
  obtain ⟨a, len, cap, rfl⟩ := hw.shape
  refine HC.start comp52 rfl ?_; unfold pc52
  refine v_drawG (unp G mb) (unp_le _ _) ?_
  refine p_preG qrf ?_
  (repeat' (first | (with_reducible refine i_ops ?_; first | (refine g_mv ?_; refine s_mv ?_) | refine o_nil ?_ | (refine g_slc ?_; ((first | refine s_slcB ?_ | refine s_slcB01 ?_ | refine s_slcB10 ?_); intro us hus hbs)) | (refine g_pure ?_; first | refine s_nilPf ?_ | refine s_nilPt ?_ | refine s_nilNf ?_ | refine s_nilNt ?_ | refine s_nilck ?_ | refine s_fptr0 ?_ | refine s_seq0 ?_ | refine s_lenSB ?_ | refine s_pure ?_ | refine s_saddB ?_) | (refine g_hload ?_; first | refine s_hbx ?_ | refine s_d0 ?_ | refine s_d1 ?_ | refine s_d2 ?_ | refine s_d3 ?_ | refine s_d4 ?_ | refine s_d5 ?_ | refine s_d6 ?_ | refine s_hloadP ?_)) | (with_reducible refine i_vc ?_; first | refine v_seq ?_ | refine v_ops ?_ | (refine g_cond ?_; first | refine s_cond_t ?_ | refine s_cond_f ?_) | refine v_skip ?_ | refine v_ret ?_ | refine s_drawl ?_ | refine v_draw0 ?_) | (with_reducible refine i_plan ?_; first | refine p_done ?_ | refine s_pre ?_ | refine s_preN ?_ | refine s_ag_t ?_ | refine s_ag_f ?_ | refine s_alt ?_ | refine p_alt ?_ ?_) | (with_reducible first | refine n_then ?_ | refine r_then ?_ | refine e_then ?_ | (refine g_stand ?_; first | refine s_stand ?_ | refine s_standL ?_)) | ((with_reducible first | refine s_cond_c ?_ ?_) <;> intro hb <;> rw [hb] <;> (try simp only [decide_eq_true_eq, decide_eq_false_iff_not, beq_iff_eq, bne_iff_ne, beq_eq_false_iff_ne, bne_eq_false_iff_eq, ne_eq, Int.not_lt, Int.not_le, gt_iff_lt, ge_iff_le, Bool.not_eq_true', Bool.not_eq_false'] at hb)) | ((with_reducible first | refine s_ret ?_ | refine s_normal ?_); try simp only [x_tup0, x_tup1, x_tup2, x_tup3, x_tup4, x_tup5, and_true, true_and])))
  refine k_back ?_
  (repeat' (first | (with_reducible refine i_ops ?_; first | (refine g_mv ?_; refine s_mv ?_) | refine o_nil ?_ | (refine g_slc ?_; ((first | refine s_slcB ?_ | refine s_slcB01 ?_ | refine s_slcB10 ?_); intro us hus hbs)) | (refine g_pure ?_; first | refine s_nilPf ?_ | refine s_nilPt ?_ | refine s_nilNf ?_ | refine s_nilNt ?_ | refine s_nilck ?_ | refine s_fptr0 ?_ | refine s_seq0 ?_ | refine s_lenSB ?_ | refine s_pure ?_ | refine s_saddB ?_) | (refine g_hload ?_; first | refine s_hbx ?_ | refine s_d0 ?_ | refine s_d1 ?_ | refine s_d2 ?_ | refine s_d3 ?_ | refine s_d4 ?_ | refine s_d5 ?_ | refine s_d6 ?_ | refine s_hloadP ?_)) | (with_reducible refine i_vc ?_; first | refine v_seq ?_ | refine v_ops ?_ | (refine g_cond ?_; first | refine s_cond_t ?_ | refine s_cond_f ?_) | refine v_skip ?_ | refine v_ret ?_ | refine s_drawl ?_ | refine v_draw0 ?_) | (with_reducible refine i_plan ?_; first | refine p_done ?_ | refine s_pre ?_ | refine s_preN ?_ | refine s_ag_t ?_ | refine s_ag_f ?_ | refine s_alt ?_ | refine p_alt ?_ ?_) | (with_reducible first | refine n_then ?_ | refine r_then ?_ | refine e_then ?_ | (refine g_stand ?_; first | refine s_stand ?_ | refine s_standL ?_)) | ((with_reducible first | refine s_cond_c ?_ ?_) <;> intro hb <;> rw [hb] <;> (try simp only [decide_eq_true_eq, decide_eq_false_iff_not, beq_iff_eq, bne_iff_ne, beq_eq_false_iff_ne, bne_eq_false_iff_eq, ne_eq, Int.not_lt, Int.not_le, gt_iff_lt, ge_iff_le, Bool.not_eq_true', Bool.not_eq_false'] at hb)) | ((with_reducible first | refine s_ret ?_ | refine s_normal ?_); try simp only [x_tup0, x_tup1, x_tup2, x_tup3, x_tup4, x_tup5, and_true, true_and])))
  refine o_mlook (s := s) qrf qrf hg hm ?_
  rw [hv]
  have hus' : By G us (List.take (↑j - 1 : Int).toNat bs) := Sl.le hus (unp_le G mb)
  obtain ⟨a2, l2, c2, rfl⟩ := hby.shape
  obtain ⟨a3, l3, c3, rfl⟩ := hus.shape
  have hup : (unp G mb).le G := unp_le G mb
  refine s_stand ?_
  (repeat' (first | (with_reducible refine i_ops ?_; first | (refine g_mv ?_; refine s_mv ?_) | refine o_nil ?_ | (refine g_slc ?_; ((first | refine s_slcB ?_ | refine s_slcB01 ?_ | refine s_slcB10 ?_); intro us hus hbs)) | (refine g_pure ?_; first | refine s_nilPf ?_ | refine s_nilPt ?_ | refine s_nilNf ?_ | refine s_nilNt ?_ | refine s_nilck ?_ | refine s_fptr0 ?_ | refine s_seq0 ?_ | refine s_lenSB ?_ | refine s_pure ?_ | refine s_saddB ?_) | (refine g_hload ?_; first | refine s_hbx ?_ | refine s_d0 ?_ | refine s_d1 ?_ | refine s_d2 ?_ | refine s_d3 ?_ | refine s_d4 ?_ | refine s_d5 ?_ | refine s_d6 ?_ | refine s_hloadP ?_)) | (with_reducible refine i_vc ?_; first | refine v_seq ?_ | refine v_ops ?_ | (refine g_cond ?_; first | refine s_cond_t ?_ | refine s_cond_f ?_) | refine v_skip ?_ | refine v_ret ?_ | refine s_drawl ?_ | refine v_draw0 ?_) | (with_reducible refine i_plan ?_; first | refine p_done ?_ | refine s_pre ?_ | refine s_preN ?_ | refine s_ag_t ?_ | refine s_ag_f ?_ | refine s_alt ?_ | refine p_alt ?_ ?_) | (with_reducible first | refine n_then ?_ | refine r_then ?_ | refine e_then ?_ | (refine g_stand ?_; first | refine s_stand ?_ | refine s_standL ?_)) | ((with_reducible first | refine s_cond_c ?_ ?_) <;> intro hb <;> rw [hb] <;> (try simp only [decide_eq_true_eq, decide_eq_false_iff_not, beq_iff_eq, bne_iff_ne, beq_eq_false_iff_ne, bne_eq_false_iff_eq, ne_eq, Int.not_lt, Int.not_le, gt_iff_lt, ge_iff_le, Bool.not_eq_true', Bool.not_eq_false'] at hb)) | ((with_reducible first | refine s_ret ?_ | refine s_normal ?_); try simp only [x_tup0, x_tup1, x_tup2, x_tup3, x_tup4, x_tup5, and_true, true_and])))
  refine o_bsliceO (vs := [.slice a2 l2 c2, .slice a3 l3 c3]) qrf rfl rfl rfl rfl rfl ?_
  intro u G1 hl1 ho1 hu1
  have hup1 : (unp G mb).le G1 := GH.le_trans hup hl1
  have hI1 : I.le G1 := GH.le_trans hI hl1
  refine s_stand ?_
  have hpt : Parts G1 u [.slice a2 l2 c2, .slice a3 l3 c3] [fg s fs, List.take (↑j - 1 : Int).toNat bs] := by
    refine ⟨ho1.sl, rfl, fun i hi => ?_⟩
    match i, hi with
    | 0, _ => exact ⟨_, rfl, Sl.le hby hI1⟩
    | 1, _ => exact ⟨_, rfl, Sl.le hus' hl1⟩
  have hfl : [fg s fs, List.take (↑j - 1 : Int).toNat bs].flatten = fg s fs ++ bs.take (j - 1) := by
    rw [show (↑j - 1 : Int).toNat = j - 1 by omega]
    simp
  have hcat := concat u _ _ G1 hpt (by rw [hfl, List.length_append, List.length_take]; omega)
  (repeat' (first | (with_reducible refine i_ops ?_; first | (refine g_mv ?_; refine s_mv ?_) | refine o_nil ?_ | (refine g_slc ?_; ((first | refine s_slcB ?_ | refine s_slcB01 ?_ | refine s_slcB10 ?_); intro us hus hbs)) | (refine g_pure ?_; first | refine s_nilPf ?_ | refine s_nilPt ?_ | refine s_nilNf ?_ | refine s_nilNt ?_ | refine s_nilck ?_ | refine s_fptr0 ?_ | refine s_seq0 ?_ | refine s_lenSB ?_ | refine s_pure ?_ | refine s_saddB ?_) | (refine g_hload ?_; first | refine s_hbx ?_ | refine s_d0 ?_ | refine s_d1 ?_ | refine s_d2 ?_ | refine s_d3 ?_ | refine s_d4 ?_ | refine s_d5 ?_ | refine s_d6 ?_ | refine s_hloadP ?_)) | (with_reducible refine i_vc ?_; first | refine v_seq ?_ | refine v_ops ?_ | (refine g_cond ?_; first | refine s_cond_t ?_ | refine s_cond_f ?_) | refine v_skip ?_ | refine v_ret ?_ | refine s_drawl ?_ | refine v_draw0 ?_) | (with_reducible refine i_plan ?_; first | refine p_done ?_ | refine s_pre ?_ | refine s_preN ?_ | refine s_ag_t ?_ | refine s_ag_f ?_ | refine s_alt ?_ | refine p_alt ?_ ?_) | (with_reducible first | refine n_then ?_ | refine r_then ?_ | refine e_then ?_ | (refine g_stand ?_; first | refine s_stand ?_ | refine s_standL ?_)) | ((with_reducible first | refine s_cond_c ?_ ?_) <;> intro hb <;> rw [hb] <;> (try simp only [decide_eq_true_eq, decide_eq_false_iff_not, beq_iff_eq, bne_iff_ne, beq_eq_false_iff_ne, bne_eq_false_iff_eq, ne_eq, Int.not_lt, Int.not_le, gt_iff_lt, ge_iff_le, Bool.not_eq_true', Bool.not_eq_false'] at hb)) | ((with_reducible first | refine s_ret ?_ | refine s_normal ?_); try simp only [x_tup0, x_tup1, x_tup2, x_tup3, x_tup4, x_tup5, and_true, true_and])))
  refine o_callc qrf hcat ?_
  rintro v2 G2 ⟨hl2, ho2⟩
  rw [hfl] at ho2
  have hup2 : (unp G mb).le G2 := GH.le_trans hup1 hl2
  have hgG2 : G.le G2 := GH.le_trans hl1 hl2
  have hg2 : G2 mb = some mo := hgG2 _ _ hg
  obtain ⟨a4, l4, c4, rfl⟩ := ho2.shape
  refine s_stand ?_
  (repeat' (first | (with_reducible refine i_ops ?_; first | (refine g_mv ?_; refine s_mv ?_) | refine o_nil ?_ | (refine g_slc ?_; ((first | refine s_slcB ?_ | refine s_slcB01 ?_ | refine s_slcB10 ?_); intro us hus hbs)) | (refine g_pure ?_; first | refine s_nilPf ?_ | refine s_nilPt ?_ | refine s_nilNf ?_ | refine s_nilNt ?_ | refine s_nilck ?_ | refine s_fptr0 ?_ | refine s_seq0 ?_ | refine s_lenSB ?_ | refine s_pure ?_ | refine s_saddB ?_) | (refine g_hload ?_; first | refine s_hbx ?_ | refine s_d0 ?_ | refine s_d1 ?_ | refine s_d2 ?_ | refine s_d3 ?_ | refine s_d4 ?_ | refine s_d5 ?_ | refine s_d6 ?_ | refine s_hloadP ?_)) | (with_reducible refine i_vc ?_; first | refine v_seq ?_ | refine v_ops ?_ | (refine g_cond ?_; first | refine s_cond_t ?_ | refine s_cond_f ?_) | refine v_skip ?_ | refine v_ret ?_ | refine s_drawl ?_ | refine v_draw0 ?_) | (with_reducible refine i_plan ?_; first | refine p_done ?_ | refine s_pre ?_ | refine s_preN ?_ | refine s_ag_t ?_ | refine s_ag_f ?_ | refine s_alt ?_ | refine p_alt ?_ ?_) | (with_reducible first | refine n_then ?_ | refine r_then ?_ | refine e_then ?_ | (refine g_stand ?_; first | refine s_stand ?_ | refine s_standL ?_)) | ((with_reducible first | refine s_cond_c ?_ ?_) <;> intro hb <;> rw [hb] <;> (try simp only [decide_eq_true_eq, decide_eq_false_iff_not, beq_iff_eq, bne_iff_ne, beq_eq_false_iff_ne, bne_eq_false_iff_eq, ne_eq, Int.not_lt, Int.not_le, gt_iff_lt, ge_iff_le, Bool.not_eq_true', Bool.not_eq_false'] at hb)) | ((with_reducible first | refine s_ret ?_ | refine s_normal ?_); try simp only [x_tup0, x_tup1, x_tup2, x_tup3, x_tup4, x_tup5, and_true, true_and])))
  refine o_mput (s := s) (y := .slice a4 l4 c4) qrf qrf qrf hg2 hm ?_
  intro o' ho'
  have hup3 : (unp G mb).le (G2.put mb o') := GH.le_trans (fun c o h => by
    by_cases e : c = mb
    · subst e; rw [unp_self] at h; cases h
    · rw [unp_ne e] at h ⊢; exact hgG2 _ _ h) le_put_unp
  refine s_stand ?_
  (repeat' (first | (with_reducible refine i_ops ?_; first | (refine g_mv ?_; refine s_mv ?_) | refine o_nil ?_ | (refine g_slc ?_; ((first | refine s_slcB ?_ | refine s_slcB01 ?_ | refine s_slcB10 ?_); intro us hus hbs)) | (refine g_pure ?_; first | refine s_nilPf ?_ | refine s_nilPt ?_ | refine s_nilNf ?_ | refine s_nilNt ?_ | refine s_nilck ?_ | refine s_fptr0 ?_ | refine s_seq0 ?_ | refine s_lenSB ?_ | refine s_pure ?_ | refine s_saddB ?_) | (refine g_hload ?_; first | refine s_hbx ?_ | refine s_d0 ?_ | refine s_d1 ?_ | refine s_d2 ?_ | refine s_d3 ?_ | refine s_d4 ?_ | refine s_d5 ?_ | refine s_d6 ?_ | refine s_hloadP ?_)) | (with_reducible refine i_vc ?_; first | refine v_seq ?_ | refine v_ops ?_ | (refine g_cond ?_; first | refine s_cond_t ?_ | refine s_cond_f ?_) | refine v_skip ?_ | refine v_ret ?_ | refine s_drawl ?_ | refine v_draw0 ?_) | (with_reducible refine i_plan ?_; first | refine p_done ?_ | refine s_pre ?_ | refine s_preN ?_ | refine s_ag_t ?_ | refine s_ag_f ?_ | refine s_alt ?_ | refine p_alt ?_ ?_) | (with_reducible first | refine n_then ?_ | refine r_then ?_ | refine e_then ?_ | (refine g_stand ?_; first | refine s_stand ?_ | refine s_standL ?_)) | ((with_reducible first | refine s_cond_c ?_ ?_) <;> intro hb <;> rw [hb] <;> (try simp only [decide_eq_true_eq, decide_eq_false_iff_not, beq_iff_eq, bne_iff_ne, beq_eq_false_iff_ne, bne_eq_false_iff_eq, ne_eq, Int.not_lt, Int.not_le, gt_iff_lt, ge_iff_le, Bool.not_eq_true', Bool.not_eq_false'] at hb)) | ((with_reducible first | refine s_ret ?_ | refine s_normal ?_); try simp only [x_tup0, x_tup1, x_tup2, x_tup3, x_tup4, x_tup5, and_true, true_and])))
  have hI2 : I.le G2 := GH.le_trans hI hgG2
  refine ⟨addF I G G2, o', _, addF_le _ _ _, le_but (addF_le2 hI2) (addF_none hn hg) (fun c hc => GH.put_ne _ _ hc), GH.put_same _ _ _, ho', (hr.le (addF_le _ _ _)).put (own_addF hI hl1 ho2) s, addF_none hn hg, fun c o hc h => by rw [GH.put_ne _ _ hc]; exact hgG2 _ _ h, fun c h => addF_in h⟩
end
end Go.Proofs.Ytbmhdmkmnhaffaa.V
end
section
/- A disk that no call made; what is wrong with a disk itself, or a file's name. -/
set_option linter.unusedVariables false
set_option linter.unusedSimpArgs false
-- @pre g_hload s_hbx s_d0 s_d1 s_d2 s_d3 s_d4 s_d5 s_d6
-- @extra s_nilPf s_nilPt s_nilNf s_nilNt s_nilck s_fptr0 s_seq0 s_lenSB
namespace Go.Proofs.Ytbmhdmkmnhaffaa.V
open Go.RowKit Go.ChangeShapes Go.WideShapes
section
variable {b : Nat} {made : Bool} {room fuse : Int} {nw ls us : Value} {gone : Bool} {t : TypeId} {G : GH}
theorem noneN (G : GH) : HC Try.prog 35 #[.pointer none] G fun v G' => v = .bool true ∧ G' = G := by
  refine HC.start comp35 rfl ?_; unfold pc35
  (repeat' (first | (with_reducible refine i_ops ?_; first | (refine g_mv ?_; refine s_mv ?_) | refine o_nil ?_ | (refine g_some ?_; first | refine s_g_t ?_ | refine s_g_f ?_ | refine s_g_f' ?_ | refine s_g_u ?_) | (refine g_pick ?_; first | refine s_pick_t ?_ | refine s_pick_f ?_) | (refine g_len ?_; first | refine s_lenB ?_ | refine s_pure ?_) | (refine g_idx ?_; first | (refine s_idxOB ?_; intro p hp hpw) | (refine s_idxB ?_; intro p hp)) | (refine g_pure ?_; first | refine s_nilPf ?_ | refine s_nilPt ?_ | refine s_nilNf ?_ | refine s_nilNt ?_ | refine s_nilck ?_ | refine s_fptr0 ?_ | refine s_seq0 ?_ | refine s_lenSB ?_ | refine s_pure ?_ | refine s_saddB ?_) | (refine g_lfield ?_; refine s_lfield ?_) | (refine g_lload ?_; refine s_lload ?_) | (refine g_lstore ?_; first | refine s_lstoreA ?_ | refine s_lstore ?_) | (refine g_lalloc ?_; refine s_lalloc ?_) | (refine g_hload ?_; first | refine s_hbx ?_ | refine s_d0 ?_ | refine s_d1 ?_ | refine s_d2 ?_ | refine s_d3 ?_ | refine s_d4 ?_ | refine s_d5 ?_ | refine s_d6 ?_ | refine s_hloadP ?_) | (refine g_hstore ?_; (refine s_hstoreB ?_; intro G' hle ho hkp))) | (with_reducible refine i_vc ?_; first | refine v_seq ?_ | refine v_ops ?_ | (refine g_cond ?_; first | refine s_cond_t ?_ | refine s_cond_f ?_) | refine v_block ?_ | refine v_skip ?_ | refine v_exit ?_ | refine v_ret ?_ | refine s_drawl ?_ | refine v_draw0 ?_) | (with_reducible refine i_plan ?_; first | refine p_done ?_ | refine s_pre ?_ | refine s_preN ?_ | refine s_ag_t ?_ | refine s_ag_f ?_ | refine s_alt ?_ | refine p_alt ?_ ?_) | (with_reducible first | refine n_then ?_ | refine r_then ?_ | refine e_then ?_ | refine n_block ?_ | refine r_block ?_ | refine e_block_eq qrf ?_ | refine e_block_ne qrf ?_ | (refine g_stand ?_; first | refine s_stand ?_ | refine s_standL ?_)) | ((with_reducible first | refine s_g_c ?_ ?_ | refine s_cond_c ?_ ?_ | refine s_tg_c ?_ ?_ | refine s_ag_c ?_ ?_) <;> intro hb <;> rw [hb] <;> (try simp only [decide_eq_true_eq, decide_eq_false_iff_not, beq_iff_eq, bne_iff_ne, beq_eq_false_iff_ne, bne_eq_false_iff_eq, ne_eq, Int.not_lt, Int.not_le, gt_iff_lt, ge_iff_le, Bool.not_eq_true', Bool.not_eq_false'] at hb)) | ((with_reducible first | refine s_ret ?_ | refine s_normal ?_); try simp only [x_tup0, x_tup1, x_tup2, x_tup3, x_tup4, x_tup5, and_true, true_and])))
theorem noneF (hb : G b = some (.cells (dc made room nw ls us fuse gone) t (0, 0))) : HC Try.prog 35 #[pt b] G fun v G' => v = .bool (!made) ∧ G' = G := by
  refine HC.start comp35 rfl ?_; unfold pc35
  (repeat' (first | (with_reducible refine i_ops ?_; first | (refine g_mv ?_; refine s_mv ?_) | refine o_nil ?_ | (refine g_some ?_; first | refine s_g_t ?_ | refine s_g_f ?_ | refine s_g_f' ?_ | refine s_g_u ?_) | (refine g_pick ?_; first | refine s_pick_t ?_ | refine s_pick_f ?_) | (refine g_len ?_; first | refine s_lenB ?_ | refine s_pure ?_) | (refine g_idx ?_; first | (refine s_idxOB ?_; intro p hp hpw) | (refine s_idxB ?_; intro p hp)) | (refine g_pure ?_; first | refine s_nilPf ?_ | refine s_nilPt ?_ | refine s_nilNf ?_ | refine s_nilNt ?_ | refine s_nilck ?_ | refine s_fptr0 ?_ | refine s_seq0 ?_ | refine s_lenSB ?_ | refine s_pure ?_ | refine s_saddB ?_) | (refine g_lfield ?_; refine s_lfield ?_) | (refine g_lload ?_; refine s_lload ?_) | (refine g_lstore ?_; first | refine s_lstoreA ?_ | refine s_lstore ?_) | (refine g_lalloc ?_; refine s_lalloc ?_) | (refine g_hload ?_; first | refine s_hbx ?_ | refine s_d0 ?_ | refine s_d1 ?_ | refine s_d2 ?_ | refine s_d3 ?_ | refine s_d4 ?_ | refine s_d5 ?_ | refine s_d6 ?_ | refine s_hloadP ?_) | (refine g_hstore ?_; (refine s_hstoreB ?_; intro G' hle ho hkp))) | (with_reducible refine i_vc ?_; first | refine v_seq ?_ | refine v_ops ?_ | (refine g_cond ?_; first | refine s_cond_t ?_ | refine s_cond_f ?_) | refine v_block ?_ | refine v_skip ?_ | refine v_exit ?_ | refine v_ret ?_ | refine s_drawl ?_ | refine v_draw0 ?_) | (with_reducible refine i_plan ?_; first | refine p_done ?_ | refine s_pre ?_ | refine s_preN ?_ | refine s_ag_t ?_ | refine s_ag_f ?_ | refine s_alt ?_ | refine p_alt ?_ ?_) | (with_reducible first | refine n_then ?_ | refine r_then ?_ | refine e_then ?_ | refine n_block ?_ | refine r_block ?_ | refine e_block_eq qrf ?_ | refine e_block_ne qrf ?_ | (refine g_stand ?_; first | refine s_stand ?_ | refine s_standL ?_)) | ((with_reducible first | refine s_g_c ?_ ?_ | refine s_cond_c ?_ ?_ | refine s_tg_c ?_ ?_ | refine s_ag_c ?_ ?_) <;> intro hb <;> rw [hb] <;> (try simp only [decide_eq_true_eq, decide_eq_false_iff_not, beq_iff_eq, bne_iff_ne, beq_eq_false_iff_ne, bne_eq_false_iff_eq, ne_eq, Int.not_lt, Int.not_le, gt_iff_lt, ge_iff_le, Bool.not_eq_true', Bool.not_eq_false'] at hb)) | ((with_reducible first | refine s_ret ?_ | refine s_normal ?_); try simp only [x_tup0, x_tup1, x_tup2, x_tup3, x_tup4, x_tup5, and_true, true_and])))
theorem powerN (G : GH) : HC Try.prog 32 #[.pointer none] G fun v G' => v = .int .i64 1 ∧ G' = G := by
  refine HC.start comp32 rfl ?_; unfold pc32
  (repeat' (first | (with_reducible refine i_ops ?_; first | (refine g_mv ?_; refine s_mv ?_) | refine o_nil ?_ | (refine g_some ?_; first | refine s_g_t ?_ | refine s_g_f ?_ | refine s_g_f' ?_ | refine s_g_u ?_) | (refine g_pick ?_; first | refine s_pick_t ?_ | refine s_pick_f ?_) | (refine g_len ?_; first | refine s_lenB ?_ | refine s_pure ?_) | (refine g_idx ?_; first | (refine s_idxOB ?_; intro p hp hpw) | (refine s_idxB ?_; intro p hp)) | (refine g_pure ?_; first | refine s_nilPf ?_ | refine s_nilPt ?_ | refine s_nilNf ?_ | refine s_nilNt ?_ | refine s_nilck ?_ | refine s_fptr0 ?_ | refine s_seq0 ?_ | refine s_lenSB ?_ | refine s_pure ?_ | refine s_saddB ?_) | (refine g_lfield ?_; refine s_lfield ?_) | (refine g_lload ?_; refine s_lload ?_) | (refine g_lstore ?_; first | refine s_lstoreA ?_ | refine s_lstore ?_) | (refine g_lalloc ?_; refine s_lalloc ?_) | (refine g_hload ?_; first | refine s_hbx ?_ | refine s_d0 ?_ | refine s_d1 ?_ | refine s_d2 ?_ | refine s_d3 ?_ | refine s_d4 ?_ | refine s_d5 ?_ | refine s_d6 ?_ | refine s_hloadP ?_) | (refine g_hstore ?_; (refine s_hstoreB ?_; intro G' hle ho hkp)) | refine o_callp qrf (by first | exact noneN _) ?_ | (refine o_callg qrf (by first | exact noneN _) ?_; intro G' hle)) | (with_reducible refine i_vc ?_; first | refine v_seq ?_ | refine v_ops ?_ | (refine g_cond ?_; first | refine s_cond_t ?_ | refine s_cond_f ?_) | refine v_block ?_ | refine v_skip ?_ | refine v_exit ?_ | refine v_ret ?_ | refine s_drawl ?_ | refine v_draw0 ?_) | (with_reducible refine i_plan ?_; first | refine p_done ?_ | refine s_pre ?_ | refine s_preN ?_ | refine s_ag_t ?_ | refine s_ag_f ?_ | refine p_callp qrf (by first | exact noneN _) qle ?_ p_no | (refine p_callg qrf (by first | exact noneN _) qle ?_ p_no; intro G' hle) | refine s_alt ?_ | refine p_alt ?_ ?_) | (with_reducible first | refine n_then ?_ | refine r_then ?_ | refine e_then ?_ | refine n_block ?_ | refine r_block ?_ | refine e_block_eq qrf ?_ | refine e_block_ne qrf ?_ | (refine g_stand ?_; first | refine s_stand ?_ | refine s_standL ?_)) | ((with_reducible first | refine s_g_c ?_ ?_ | refine s_cond_c ?_ ?_ | refine s_tg_c ?_ ?_ | refine s_ag_c ?_ ?_) <;> intro hb <;> rw [hb] <;> (try simp only [decide_eq_true_eq, decide_eq_false_iff_not, beq_iff_eq, bne_iff_ne, beq_eq_false_iff_ne, bne_eq_false_iff_eq, ne_eq, Int.not_lt, Int.not_le, gt_iff_lt, ge_iff_le, Bool.not_eq_true', Bool.not_eq_false'] at hb)) | ((with_reducible first | refine s_ret ?_ | refine s_normal ?_); try simp only [x_tup0, x_tup1, x_tup2, x_tup3, x_tup4, x_tup5, and_true, true_and])))
def powE (made gone : Bool) : Int := if made then (if gone then 232 else 0) else 1
theorem powerF (hb : G b = some (.cells (dc made room nw ls us fuse gone) t (0, 0))) : HC Try.prog 32 #[pt b] G fun v G' => v = .int .i64 (powE made gone) ∧ G' = G := by
  refine HC.start comp32 rfl ?_; unfold pc32
  cases made with
  | false =>
    have c1 : HC Try.prog 35 #[pt b] G fun v G' => v = .bool true ∧ G' = G := noneF hb
    (repeat' (first | (with_reducible refine i_ops ?_; first | (refine g_mv ?_; refine s_mv ?_) | refine o_nil ?_ | (refine g_some ?_; first | refine s_g_t ?_ | refine s_g_f ?_ | refine s_g_f' ?_ | refine s_g_u ?_) | (refine g_pick ?_; first | refine s_pick_t ?_ | refine s_pick_f ?_) | (refine g_len ?_; first | refine s_lenB ?_ | refine s_pure ?_) | (refine g_idx ?_; first | (refine s_idxOB ?_; intro p hp hpw) | (refine s_idxB ?_; intro p hp)) | (refine g_pure ?_; first | refine s_nilPf ?_ | refine s_nilPt ?_ | refine s_nilNf ?_ | refine s_nilNt ?_ | refine s_nilck ?_ | refine s_fptr0 ?_ | refine s_seq0 ?_ | refine s_lenSB ?_ | refine s_pure ?_ | refine s_saddB ?_) | (refine g_lfield ?_; refine s_lfield ?_) | (refine g_lload ?_; refine s_lload ?_) | (refine g_lstore ?_; first | refine s_lstoreA ?_ | refine s_lstore ?_) | (refine g_lalloc ?_; refine s_lalloc ?_) | (refine g_hload ?_; first | refine s_hbx ?_ | refine s_d0 ?_ | refine s_d1 ?_ | refine s_d2 ?_ | refine s_d3 ?_ | refine s_d4 ?_ | refine s_d5 ?_ | refine s_d6 ?_ | refine s_hloadP ?_) | (refine g_hstore ?_; (refine s_hstoreB ?_; intro G' hle ho hkp)) | refine o_callp qrf (by first | exact c1) ?_ | (refine o_callg qrf (by first | exact c1) ?_; intro G' hle)) | (with_reducible refine i_vc ?_; first | refine v_seq ?_ | refine v_ops ?_ | (refine g_cond ?_; first | refine s_cond_t ?_ | refine s_cond_f ?_) | refine v_block ?_ | refine v_skip ?_ | refine v_exit ?_ | refine v_ret ?_ | refine s_drawl ?_ | refine v_draw0 ?_) | (with_reducible refine i_plan ?_; first | refine p_done ?_ | refine s_pre ?_ | refine s_preN ?_ | refine s_ag_t ?_ | refine s_ag_f ?_ | refine p_callp qrf (by first | exact c1) qle ?_ p_no | (refine p_callg qrf (by first | exact c1) qle ?_ p_no; intro G' hle) | refine s_alt ?_ | refine p_alt ?_ ?_) | (with_reducible first | refine n_then ?_ | refine r_then ?_ | refine e_then ?_ | refine n_block ?_ | refine r_block ?_ | refine e_block_eq qrf ?_ | refine e_block_ne qrf ?_ | (refine g_stand ?_; first | refine s_stand ?_ | refine s_standL ?_)) | ((with_reducible first | refine s_g_c ?_ ?_ | refine s_cond_c ?_ ?_ | refine s_tg_c ?_ ?_ | refine s_ag_c ?_ ?_) <;> intro hb <;> rw [hb] <;> (try simp only [decide_eq_true_eq, decide_eq_false_iff_not, beq_iff_eq, bne_iff_ne, beq_eq_false_iff_ne, bne_eq_false_iff_eq, ne_eq, Int.not_lt, Int.not_le, gt_iff_lt, ge_iff_le, Bool.not_eq_true', Bool.not_eq_false'] at hb)) | ((with_reducible first | refine s_ret ?_ | refine s_normal ?_); try simp only [x_tup0, x_tup1, x_tup2, x_tup3, x_tup4, x_tup5, and_true, true_and])))
    rfl
  | true =>
    have c1 : HC Try.prog 35 #[pt b] G fun v G' => v = .bool false ∧ G' = G := noneF hb
    cases gone with
    | false =>
      (repeat' (first | (with_reducible refine i_ops ?_; first | (refine g_mv ?_; refine s_mv ?_) | refine o_nil ?_ | (refine g_some ?_; first | refine s_g_t ?_ | refine s_g_f ?_ | refine s_g_f' ?_ | refine s_g_u ?_) | (refine g_pick ?_; first | refine s_pick_t ?_ | refine s_pick_f ?_) | (refine g_len ?_; first | refine s_lenB ?_ | refine s_pure ?_) | (refine g_idx ?_; first | (refine s_idxOB ?_; intro p hp hpw) | (refine s_idxB ?_; intro p hp)) | (refine g_pure ?_; first | refine s_nilPf ?_ | refine s_nilPt ?_ | refine s_nilNf ?_ | refine s_nilNt ?_ | refine s_nilck ?_ | refine s_fptr0 ?_ | refine s_seq0 ?_ | refine s_lenSB ?_ | refine s_pure ?_ | refine s_saddB ?_) | (refine g_lfield ?_; refine s_lfield ?_) | (refine g_lload ?_; refine s_lload ?_) | (refine g_lstore ?_; first | refine s_lstoreA ?_ | refine s_lstore ?_) | (refine g_lalloc ?_; refine s_lalloc ?_) | (refine g_hload ?_; first | refine s_hbx ?_ | refine s_d0 ?_ | refine s_d1 ?_ | refine s_d2 ?_ | refine s_d3 ?_ | refine s_d4 ?_ | refine s_d5 ?_ | refine s_d6 ?_ | refine s_hloadP ?_) | (refine g_hstore ?_; (refine s_hstoreB ?_; intro G' hle ho hkp)) | refine o_callp qrf (by first | exact c1) ?_ | (refine o_callg qrf (by first | exact c1) ?_; intro G' hle)) | (with_reducible refine i_vc ?_; first | refine v_seq ?_ | refine v_ops ?_ | (refine g_cond ?_; first | refine s_cond_t ?_ | refine s_cond_f ?_) | refine v_block ?_ | refine v_skip ?_ | refine v_exit ?_ | refine v_ret ?_ | refine s_drawl ?_ | refine v_draw0 ?_) | (with_reducible refine i_plan ?_; first | refine p_done ?_ | refine s_pre ?_ | refine s_preN ?_ | refine s_ag_t ?_ | refine s_ag_f ?_ | refine p_callp qrf (by first | exact c1) qle ?_ p_no | (refine p_callg qrf (by first | exact c1) qle ?_ p_no; intro G' hle) | refine s_alt ?_ | refine p_alt ?_ ?_) | (with_reducible first | refine n_then ?_ | refine r_then ?_ | refine e_then ?_ | refine n_block ?_ | refine r_block ?_ | refine e_block_eq qrf ?_ | refine e_block_ne qrf ?_ | (refine g_stand ?_; first | refine s_stand ?_ | refine s_standL ?_)) | ((with_reducible first | refine s_g_c ?_ ?_ | refine s_cond_c ?_ ?_ | refine s_tg_c ?_ ?_ | refine s_ag_c ?_ ?_) <;> intro hb <;> rw [hb] <;> (try simp only [decide_eq_true_eq, decide_eq_false_iff_not, beq_iff_eq, bne_iff_ne, beq_eq_false_iff_ne, bne_eq_false_iff_eq, ne_eq, Int.not_lt, Int.not_le, gt_iff_lt, ge_iff_le, Bool.not_eq_true', Bool.not_eq_false'] at hb)) | ((with_reducible first | refine s_ret ?_ | refine s_normal ?_); try simp only [x_tup0, x_tup1, x_tup2, x_tup3, x_tup4, x_tup5, and_true, true_and])))
      rfl
    | true =>
      (repeat' (first | (with_reducible refine i_ops ?_; first | (refine g_mv ?_; refine s_mv ?_) | refine o_nil ?_ | (refine g_some ?_; first | refine s_g_t ?_ | refine s_g_f ?_ | refine s_g_f' ?_ | refine s_g_u ?_) | (refine g_pick ?_; first | refine s_pick_t ?_ | refine s_pick_f ?_) | (refine g_len ?_; first | refine s_lenB ?_ | refine s_pure ?_) | (refine g_idx ?_; first | (refine s_idxOB ?_; intro p hp hpw) | (refine s_idxB ?_; intro p hp)) | (refine g_pure ?_; first | refine s_nilPf ?_ | refine s_nilPt ?_ | refine s_nilNf ?_ | refine s_nilNt ?_ | refine s_nilck ?_ | refine s_fptr0 ?_ | refine s_seq0 ?_ | refine s_lenSB ?_ | refine s_pure ?_ | refine s_saddB ?_) | (refine g_lfield ?_; refine s_lfield ?_) | (refine g_lload ?_; refine s_lload ?_) | (refine g_lstore ?_; first | refine s_lstoreA ?_ | refine s_lstore ?_) | (refine g_lalloc ?_; refine s_lalloc ?_) | (refine g_hload ?_; first | refine s_hbx ?_ | refine s_d0 ?_ | refine s_d1 ?_ | refine s_d2 ?_ | refine s_d3 ?_ | refine s_d4 ?_ | refine s_d5 ?_ | refine s_d6 ?_ | refine s_hloadP ?_) | (refine g_hstore ?_; (refine s_hstoreB ?_; intro G' hle ho hkp)) | refine o_callp qrf (by first | exact c1) ?_ | (refine o_callg qrf (by first | exact c1) ?_; intro G' hle)) | (with_reducible refine i_vc ?_; first | refine v_seq ?_ | refine v_ops ?_ | (refine g_cond ?_; first | refine s_cond_t ?_ | refine s_cond_f ?_) | refine v_block ?_ | refine v_skip ?_ | refine v_exit ?_ | refine v_ret ?_ | refine s_drawl ?_ | refine v_draw0 ?_) | (with_reducible refine i_plan ?_; first | refine p_done ?_ | refine s_pre ?_ | refine s_preN ?_ | refine s_ag_t ?_ | refine s_ag_f ?_ | refine p_callp qrf (by first | exact c1) qle ?_ p_no | (refine p_callg qrf (by first | exact c1) qle ?_ p_no; intro G' hle) | refine s_alt ?_ | refine p_alt ?_ ?_) | (with_reducible first | refine n_then ?_ | refine r_then ?_ | refine e_then ?_ | refine n_block ?_ | refine r_block ?_ | refine e_block_eq qrf ?_ | refine e_block_ne qrf ?_ | (refine g_stand ?_; first | refine s_stand ?_ | refine s_standL ?_)) | ((with_reducible first | refine s_g_c ?_ ?_ | refine s_cond_c ?_ ?_ | refine s_tg_c ?_ ?_ | refine s_ag_c ?_ ?_) <;> intro hb <;> rw [hb] <;> (try simp only [decide_eq_true_eq, decide_eq_false_iff_not, beq_iff_eq, bne_iff_ne, beq_eq_false_iff_ne, bne_eq_false_iff_eq, ne_eq, Int.not_lt, Int.not_le, gt_iff_lt, ge_iff_le, Bool.not_eq_true', Bool.not_eq_false'] at hb)) | ((with_reducible first | refine s_ret ?_ | refine s_normal ?_); try simp only [x_tup0, x_tup1, x_tup2, x_tup3, x_tup4, x_tup5, and_true, true_and])))
      rfl
end
/-- No disk: nil, or one that no call made. -/
def NoD (G : GH) (d : Value) : Prop := d = .pointer none ∨ ∃ b t, d = pt b ∧ G b = some (.cells (dc false 0 (.map none) (.map none) (.slice none 0 0) 0 false) t (0, 0))
theorem NoD.le {G G' : GH} {d : Value} (h : NoD G d) (hl : G.le G') : NoD G' d := by
  rcases h with rfl | ⟨b, t, rfl, h⟩
  · exact .inl rfl
  · exact .inr ⟨b, t, rfl, hl _ _ h⟩
section
variable {G : GH} {d : Value}
theorem power0 (h : NoD G d) : HC Try.prog 32 #[d] G fun v G' => v = .int .i64 1 ∧ G' = G := by
  rcases h with rfl | ⟨b, t, rfl, h⟩
  · exact powerN G
  · exact powerF h
theorem there0 (h : NoD G d) (s : Value) : HC Try.prog 47 #[d, s] G fun v G' => v = .int .i64 1 ∧ G' = G := by
  have c1 := power0 h
  refine HC.start comp47 rfl ?_; unfold pc47
  (repeat' (first | (with_reducible refine i_ops ?_; first | (refine g_mv ?_; refine s_mv ?_) | refine o_nil ?_ | (refine g_some ?_; first | refine s_g_t ?_ | refine s_g_f ?_ | refine s_g_f' ?_ | refine s_g_u ?_) | (refine g_pick ?_; first | refine s_pick_t ?_ | refine s_pick_f ?_) | (refine g_len ?_; first | refine s_lenB ?_ | refine s_pure ?_) | (refine g_idx ?_; first | (refine s_idxOB ?_; intro p hp hpw) | (refine s_idxB ?_; intro p hp)) | (refine g_pure ?_; first | refine s_nilPf ?_ | refine s_nilPt ?_ | refine s_nilNf ?_ | refine s_nilNt ?_ | refine s_nilck ?_ | refine s_fptr0 ?_ | refine s_seq0 ?_ | refine s_lenSB ?_ | refine s_pure ?_ | refine s_saddB ?_) | (refine g_lfield ?_; refine s_lfield ?_) | (refine g_lload ?_; refine s_lload ?_) | (refine g_lstore ?_; first | refine s_lstoreA ?_ | refine s_lstore ?_) | (refine g_lalloc ?_; refine s_lalloc ?_) | (refine g_hload ?_; first | refine s_hbx ?_ | refine s_d0 ?_ | refine s_d1 ?_ | refine s_d2 ?_ | refine s_d3 ?_ | refine s_d4 ?_ | refine s_d5 ?_ | refine s_d6 ?_ | refine s_hloadP ?_) | (refine g_hstore ?_; (refine s_hstoreB ?_; intro G' hle ho hkp)) | refine o_callp qrf (by first | exact c1) ?_ | (refine o_callg qrf (by first | exact c1) ?_; intro G' hle)) | (with_reducible refine i_vc ?_; first | refine v_seq ?_ | refine v_ops ?_ | (refine g_cond ?_; first | refine s_cond_t ?_ | refine s_cond_f ?_) | refine v_block ?_ | refine v_skip ?_ | refine v_exit ?_ | refine v_ret ?_ | refine s_drawl ?_ | refine v_draw0 ?_) | (with_reducible refine i_plan ?_; first | refine p_done ?_ | refine s_pre ?_ | refine s_preN ?_ | refine s_ag_t ?_ | refine s_ag_f ?_ | refine p_callp qrf (by first | exact c1) qle ?_ p_no | (refine p_callg qrf (by first | exact c1) qle ?_ p_no; intro G' hle) | refine s_alt ?_ | refine p_alt ?_ ?_) | (with_reducible first | refine n_then ?_ | refine r_then ?_ | refine e_then ?_ | refine n_block ?_ | refine r_block ?_ | refine e_block_eq qrf ?_ | refine e_block_ne qrf ?_ | (refine g_stand ?_; first | refine s_stand ?_ | refine s_standL ?_)) | ((with_reducible first | refine s_g_c ?_ ?_ | refine s_cond_c ?_ ?_ | refine s_tg_c ?_ ?_ | refine s_ag_c ?_ ?_) <;> intro hb <;> rw [hb] <;> (try simp only [decide_eq_true_eq, decide_eq_false_iff_not, beq_iff_eq, bne_iff_ne, beq_eq_false_iff_ne, bne_eq_false_iff_eq, ne_eq, Int.not_lt, Int.not_le, gt_iff_lt, ge_iff_le, Bool.not_eq_true', Bool.not_eq_false'] at hb)) | ((with_reducible first | refine s_ret ?_ | refine s_normal ?_); try simp only [x_tup0, x_tup1, x_tup2, x_tup3, x_tup4, x_tup5, and_true, true_and])))
end
end Go.Proofs.Ytbmhdmkmnhaffaa.V
end
section
/- The program's disk on the heap. -/
set_option linter.unusedVariables false
set_option linter.unusedSimpArgs false
-- @pre g_hload s_hbx s_d0 s_d1 s_d2 s_d3 s_d4 s_d5 s_d6
-- @extra s_nilPf s_nilPt s_nilNf s_nilNt s_nilck s_fptr0 s_seq0 s_lenSB
namespace Go.Proofs.Ytbmhdmkmnhaffaa.V
open Go.RowKit Go.ChangeShapes Go.WideShapes
def fuV : Option Nat → Int
  | none => -1
  | some n => n
/-- A row of units. -/
def UnF (I : GH) : List AU → List Value → Prop
  | [], xs => xs = []
  | u :: us, xs => ∃ fv r, xs = .int .i64 u.many :: fv :: r ∧ UnitV I fv u ∧ UnF I us r
theorem UnF.le {I I' : GH} (hl : I.le I') : ∀ {us : List AU} {xs : List Value}, UnF I us xs → UnF I' us xs
  | [], _, h => h
  | u :: us, _, ⟨fv, r, h1, h2, h3⟩ => ⟨fv, r, h1, h2.le hl, h3.le hl⟩
theorem UnF.len {I : GH} : ∀ {us : List AU} {xs : List Value}, UnF I us xs → xs.length = us.length * 2
  | [], _, h => by rw [h]; rfl
  | u :: us, _, ⟨fv, r, h1, h2, h3⟩ => by rw [h1, List.length_cons, List.length_cons, List.length_cons, h3.len]; omega
theorem UnF.snoc {I : GH} {v : AU} {fv : Value} (hv : UnitV I fv v) : ∀ {us : List AU} {xs : List Value}, UnF I us xs → UnF I (us ++ [v]) (xs ++ [.int .i64 v.many, fv])
  | [], _, h => by rw [h]; exact ⟨fv, [], rfl, hv, rfl⟩
  | u :: us, _, ⟨fv', r, h1, h2, h3⟩ => by rw [h1]; exact ⟨fv', _, rfl, h2, h3.snoc hv⟩
theorem UnF.get {I : GH} : ∀ {us : List AU} {xs : List Value} {i : Nat} (h : UnF I us xs) (hi : i < us.length), xs[i * 2]? = some (.int .i64 us[i].many) ∧ ∃ fv, xs[i * 2 + 1]? = some fv ∧ UnitV I fv us[i]
  | u :: us, _, 0, ⟨fv, r, h1, h2, h3⟩, _ => by rw [h1]; exact ⟨rfl, fv, rfl, h2⟩
  | u :: us, _, i + 1, ⟨fv, r, h1, h2, h3⟩, hi => by
    obtain ⟨g1, fv', g2, g3⟩ := h3.get (i := i) (by simpa using hi)
    rw [h1, Nat.succ_mul]
    exact ⟨g1, fv', g2, g3⟩
theorem Own.rebase {n : Nat} {G0 G0' G : GH} {u : Value} {xs : List Value} (h : Own n G0 G u xs) (hn : ∀ b, blkS u = some b → G0' b = none) : Own n G0' G u xs := by
  rcases h with h | ⟨b, sp, h0, h⟩
  · exact .inl h
  · exact .inr ⟨b, sp, hn b h.blk, h⟩
theorem Own.none_ {n : Nat} {G0 G : GH} {u : Value} {xs : List Value} (h : Own n G0 G u xs) {b : Nat} (hb : blkS u = some b) : G0 b = none ∧ ∃ o, G b = some o := by
  obtain ⟨o, h1, h2⟩ := h.at_ hb
  rcases h with ⟨rfl, rfl⟩ | ⟨c, sp, h0, h⟩
  · cases hb
  · have : c = b := by have := h.blk; rw [hb] at this; exact (Option.some.inj this).symm
    subst this
    exact ⟨h0, _, h1⟩
/-- A disk: its block, the map, the row of units; all else in I, which is never written. -/
structure PD (N : Nat) (I G : GH) (b mb : Nat) (us : Value) (A : AD) : Prop where
  le : I.le G
  ib : I b = none
  im : I mb = none
  bm : b ≠ mb
  ub : blkS us ≠ some b
  um : blkS us ≠ some mb
  cell : ∃ lb t, G b = some (.cells (dc true A.room (.map (some mb)) (.map (some lb)) us (fuV A.fuse) A.gone) t (0, 0)) ∧ ∃ lo lm, I lb = some lo ∧ MapO lo lm ∧ MR I lm A.lasts
  now : ∃ mo m, G mb = some mo ∧ MapO mo m ∧ MR I m A.now
  un : ∃ xs, UnF I A.units xs ∧ Own 2 I G us xs
  ok : A.Ok N
  fz : ∀ f, A.fuse = some f → f ≤ 9223372036854775807
theorem PD.up {N : Nat} {I G G' : GH} {b mb : Nat} {us : Value} {A : AD} (h : PD N I G b mb us A) (hl : G.le G') : PD N I G' b mb us A := by
  obtain ⟨lb, t, c1, c2⟩ := h.cell
  obtain ⟨mo, m, n1, n2⟩ := h.now
  obtain ⟨xs, u1, u2⟩ := h.un
  exact ⟨GH.le_trans h.le hl, h.ib, h.im, h.bm, h.ub, h.um, ⟨lb, t, hl _ _ c1, c2⟩, ⟨mo, m, hl _ _ n1, n2⟩, ⟨xs, u1, u2.le hl⟩, h.ok, h.fz⟩
/-- More is never written. -/
theorem PD.more {N : Nat} {I I' G : GH} {b mb : Nat} {us : Value} {A : AD} (h : PD N I G b mb us A) (hl : I.le I') (hg : I'.le G) (h1 : I' b = none) (h2 : I' mb = none) (h3 : ∀ c, blkS us = some c → I' c = none) : PD N I' G b mb us A := by
  obtain ⟨lb, t, c1, lo, lm, c2, c3, c4⟩ := h.cell
  obtain ⟨mo, m, n1, n2, n3⟩ := h.now
  obtain ⟨xs, u1, u2⟩ := h.un
  exact ⟨hg, h1, h2, h.bm, h.ub, h.um, ⟨lb, t, c1, lo, lm, hl _ _ c2, c3, c4.le hl⟩, ⟨mo, m, n1, n2, n3.le hl⟩, ⟨xs, u1.le hl, u2.rebase h3⟩, h.ok, h.fz⟩
/-- What is new is never written from now on. -/
theorem PD.grow {N : Nat} {I G G' : GH} {b mb : Nat} {us : Value} {A : AD} (h : PD N I G b mb us A) (hl : G.le G') : PD N (addF I G G') G' b mb us A := by
  obtain ⟨lb, t, c1, _⟩ := h.cell
  obtain ⟨mo, m, n1, _⟩ := h.now
  obtain ⟨xs, u1, u2⟩ := h.un
  refine (h.up hl).more (addF_le _ _ _) (addF_le2 (GH.le_trans h.le hl)) (addF_none h.ib c1) (addF_none h.im n1) fun c hc => ?_
  obtain ⟨e1, o, e2⟩ := u2.none_ hc
  exact addF_none e1 e2
section
variable {N : Nat} {I G : GH} {b mb : Nat} {us : Value} {A : AD}
theorem burnP (h : PD N I G b mb us A) (k : Nat) (hk : k ≤ 1099511627776) : HC Try.prog 33 #[pt b, .int .i64 k] G fun v G' => v = .int .i64 (A.burn k) ∧ PD N I G' b mb us (A.burnt k) := by
  obtain ⟨lb, t, c1, c2⟩ := h.cell
  cases hf : A.fuse with
  | none =>
    rw [hf] at c1
    have hb1 : A.burn k = k := by unfold AD.burn; rw [hf]
    have hb2 : A.burnt k = A := by unfold AD.burnt; rw [hf]
    rw [hb1, hb2]
    dsimp only [fuV] at c1
    refine HC.start comp33 rfl ?_; unfold pc33
    (repeat' (first | (with_reducible refine i_ops ?_; first | (refine g_mv ?_; refine s_mv ?_) | refine o_nil ?_ | (refine g_pure ?_; first | refine s_nilPf ?_ | refine s_nilPt ?_ | refine s_nilNf ?_ | refine s_nilNt ?_ | refine s_nilck ?_ | refine s_fptr0 ?_ | refine s_seq0 ?_ | refine s_lenSB ?_ | refine s_pure ?_ | refine s_saddB ?_) | (refine g_hload ?_; first | refine s_hbx ?_ | refine s_d0 ?_ | refine s_d1 ?_ | refine s_d2 ?_ | refine s_d3 ?_ | refine s_d4 ?_ | refine s_d5 ?_ | refine s_d6 ?_ | refine s_hloadP ?_) | (refine g_hstore ?_; (refine s_hstoreB ?_; intro G' hle ho hkp))) | (with_reducible refine i_vc ?_; first | refine v_seq ?_ | refine v_ops ?_ | (refine g_cond ?_; first | refine s_cond_t ?_ | refine s_cond_f ?_) | refine v_skip ?_ | refine v_ret ?_) | (with_reducible first | refine n_then ?_ | refine r_then ?_ | refine e_then ?_) | ((with_reducible first | refine s_cond_c ?_ ?_) <;> intro hb <;> rw [hb] <;> (try simp only [decide_eq_true_eq, decide_eq_false_iff_not, beq_iff_eq, bne_iff_ne, beq_eq_false_iff_ne, bne_eq_false_iff_eq, ne_eq, Int.not_lt, Int.not_le, gt_iff_lt, ge_iff_le, Bool.not_eq_true', Bool.not_eq_false'] at hb)) | ((with_reducible first | refine s_ret ?_ | refine s_normal ?_); try simp only [x_tup0, x_tup1, x_tup2, x_tup3, x_tup4, x_tup5, and_true, true_and])))
    exact h
  | some f =>
    rw [hf] at c1
    have hfz := h.fz f hf
    have hb1 : A.burn k = min k f := by unfold AD.burn; rw [hf]
    have hb2 : A.burnt k = { A with fuse := some (f - min k f), gone := decide (min k f < k) } := by unfold AD.burnt; rw [hf]
    dsimp only [fuV] at c1
    have fin : ∀ G1 G2 : GH, (∀ c, c ≠ b → G1 c = G c) → (∀ c, c ≠ b → G2 c = G1 c) → G2 b = some (.cells (dc true A.room (.map (some mb)) (.map (some lb)) us (fuV (A.burnt k).fuse) (A.burnt k).gone) t (0, 0)) → PD N I G2 b mb us (A.burnt k) := by
      intro G1 G2 k1 k2 hc
      have kk : ∀ c, c ≠ b → G2 c = G c := fun c hc => (k2 c hc).trans (k1 c hc)
      obtain ⟨mo, m, n1, n2⟩ := h.now
      obtain ⟨xs, u1, u2⟩ := h.un
      have hn := AD.burnt_now (A := A) (k := k)
      refine ⟨le_but h.le h.ib kk, h.ib, h.im, h.bm, h.ub, h.um, ⟨lb, t, by rw [hn.2.2.2]; exact hc, by rw [hn.2.1]; exact c2⟩, ⟨mo, m, by rw [kk _ h.bm.symm]; exact n1, by rw [hn.1]; exact n2⟩, ⟨xs, by rw [hn.2.2.1]; exact u1, u2.keep fun c hc o ho => by rw [kk c (fun e => h.ub (e ▸ hc))]; exact ho⟩, h.ok.burnt k, ?_⟩
      rw [hb2]
      intro f' e
      cases e
      omega
    by_cases hfk : (f : Int) < k
    · have e1 : A.burn k = f := by rw [hb1]; omega
      have e2 : A.burnt k = { A with fuse := some 0, gone := true } := by rw [hb2, show f - min k f = 0 by omega, decide_eq_true (by omega : min k f < k)]
      refine HC.start comp33 rfl ?_; unfold pc33
      (repeat' (first | (with_reducible refine i_ops ?_; first | (refine g_mv ?_; refine s_mv ?_) | refine o_nil ?_ | (refine g_pure ?_; first | refine s_nilPf ?_ | refine s_nilPt ?_ | refine s_nilNf ?_ | refine s_nilNt ?_ | refine s_nilck ?_ | refine s_fptr0 ?_ | refine s_seq0 ?_ | refine s_lenSB ?_ | refine s_pure ?_ | refine s_saddB ?_) | (refine g_hload ?_; first | refine s_hbx ?_ | refine s_d0 ?_ | refine s_d1 ?_ | refine s_d2 ?_ | refine s_d3 ?_ | refine s_d4 ?_ | refine s_d5 ?_ | refine s_d6 ?_ | refine s_hloadP ?_) | (refine g_hstore ?_; (refine s_hstoreB ?_; intro G' hle ho hkp))) | (with_reducible refine i_vc ?_; first | refine v_seq ?_ | refine v_ops ?_ | (refine g_cond ?_; first | refine s_cond_t ?_ | refine s_cond_f ?_) | refine v_skip ?_ | refine v_ret ?_) | (with_reducible first | refine n_then ?_ | refine r_then ?_ | refine e_then ?_) | ((with_reducible first | refine s_cond_c ?_ ?_) <;> intro hb <;> rw [hb] <;> (try simp only [decide_eq_true_eq, decide_eq_false_iff_not, beq_iff_eq, bne_iff_ne, beq_eq_false_iff_ne, bne_eq_false_iff_eq, ne_eq, Int.not_lt, Int.not_le, gt_iff_lt, ge_iff_le, Bool.not_eq_true', Bool.not_eq_false'] at hb)) | ((with_reducible first | refine s_ret ?_ | refine s_normal ?_); try simp only [x_tup0, x_tup1, x_tup2, x_tup3, x_tup4, x_tup5, and_true, true_and])))
      · exfalso; omega
      simp only [if_pos hfk]
      refine o_hst (q := 5) (cs' := dc true A.room (.map (some mb)) (.map (some lb)) us ((f : Int) - f) A.gone) qrf qrf c1 rfl rfl (by show 5 < 7; decide) rfl ?_
      intro G1 g1 k1
      (repeat' (first | (with_reducible refine i_ops ?_; first | (refine g_mv ?_; refine s_mv ?_) | refine o_nil ?_ | (refine g_pure ?_; first | refine s_nilPf ?_ | refine s_nilPt ?_ | refine s_nilNf ?_ | refine s_nilNt ?_ | refine s_nilck ?_ | refine s_fptr0 ?_ | refine s_seq0 ?_ | refine s_lenSB ?_ | refine s_pure ?_ | refine s_saddB ?_) | (refine g_hload ?_; first | refine s_hbx ?_ | refine s_d0 ?_ | refine s_d1 ?_ | refine s_d2 ?_ | refine s_d3 ?_ | refine s_d4 ?_ | refine s_d5 ?_ | refine s_d6 ?_ | refine s_hloadP ?_) | (refine g_hstore ?_; (refine s_hstoreB ?_; intro G' hle ho hkp))) | (with_reducible refine i_vc ?_; first | refine v_seq ?_ | refine v_ops ?_ | (refine g_cond ?_; first | refine s_cond_t ?_ | refine s_cond_f ?_) | refine v_skip ?_ | refine v_ret ?_) | (with_reducible first | refine n_then ?_ | refine r_then ?_ | refine e_then ?_) | ((with_reducible first | refine s_cond_c ?_ ?_) <;> intro hb <;> rw [hb] <;> (try simp only [decide_eq_true_eq, decide_eq_false_iff_not, beq_iff_eq, bne_iff_ne, beq_eq_false_iff_ne, bne_eq_false_iff_eq, ne_eq, Int.not_lt, Int.not_le, gt_iff_lt, ge_iff_le, Bool.not_eq_true', Bool.not_eq_false'] at hb)) | ((with_reducible first | refine s_ret ?_ | refine s_normal ?_); try simp only [x_tup0, x_tup1, x_tup2, x_tup3, x_tup4, x_tup5, and_true, true_and])))
      refine o_hst (q := 6) (cs' := dc true A.room (.map (some mb)) (.map (some lb)) us ((f : Int) - f) (decide ((f : Int) < k))) qrf qrf g1 rfl rfl (by show 6 < 7; decide) rfl ?_
      intro G2 g2 k2
      (repeat' (first | (with_reducible refine i_ops ?_; first | (refine g_mv ?_; refine s_mv ?_) | refine o_nil ?_ | (refine g_pure ?_; first | refine s_nilPf ?_ | refine s_nilPt ?_ | refine s_nilNf ?_ | refine s_nilNt ?_ | refine s_nilck ?_ | refine s_fptr0 ?_ | refine s_seq0 ?_ | refine s_lenSB ?_ | refine s_pure ?_ | refine s_saddB ?_) | (refine g_hload ?_; first | refine s_hbx ?_ | refine s_d0 ?_ | refine s_d1 ?_ | refine s_d2 ?_ | refine s_d3 ?_ | refine s_d4 ?_ | refine s_d5 ?_ | refine s_d6 ?_ | refine s_hloadP ?_) | (refine g_hstore ?_; (refine s_hstoreB ?_; intro G' hle ho hkp))) | (with_reducible refine i_vc ?_; first | refine v_seq ?_ | refine v_ops ?_ | (refine g_cond ?_; first | refine s_cond_t ?_ | refine s_cond_f ?_) | refine v_skip ?_ | refine v_ret ?_) | (with_reducible first | refine n_then ?_ | refine r_then ?_ | refine e_then ?_) | ((with_reducible first | refine s_cond_c ?_ ?_) <;> intro hb <;> rw [hb] <;> (try simp only [decide_eq_true_eq, decide_eq_false_iff_not, beq_iff_eq, bne_iff_ne, beq_eq_false_iff_ne, bne_eq_false_iff_eq, ne_eq, Int.not_lt, Int.not_le, gt_iff_lt, ge_iff_le, Bool.not_eq_true', Bool.not_eq_false'] at hb)) | ((with_reducible first | refine s_ret ?_ | refine s_normal ?_); try simp only [x_tup0, x_tup1, x_tup2, x_tup3, x_tup4, x_tup5, and_true, true_and])))
      refine ⟨by rw [e1], fin G1 G2 k1 k2 ?_⟩
      rw [e2]
      rw [decide_eq_true hfk, Int.sub_self] at g2
      exact g2
    · have e1 : A.burn k = k := by rw [hb1]; omega
      have e2 : A.burnt k = { A with fuse := some (f - k), gone := false } := by rw [hb2, show min k f = k by omega, decide_eq_false (by omega)]
      have e3 : ((f - k : Nat) : Int) = (f : Int) - k := by omega
      refine HC.start comp33 rfl ?_; unfold pc33
      (repeat' (first | (with_reducible refine i_ops ?_; first | (refine g_mv ?_; refine s_mv ?_) | refine o_nil ?_ | (refine g_pure ?_; first | refine s_nilPf ?_ | refine s_nilPt ?_ | refine s_nilNf ?_ | refine s_nilNt ?_ | refine s_nilck ?_ | refine s_fptr0 ?_ | refine s_seq0 ?_ | refine s_lenSB ?_ | refine s_pure ?_ | refine s_saddB ?_) | (refine g_hload ?_; first | refine s_hbx ?_ | refine s_d0 ?_ | refine s_d1 ?_ | refine s_d2 ?_ | refine s_d3 ?_ | refine s_d4 ?_ | refine s_d5 ?_ | refine s_d6 ?_ | refine s_hloadP ?_) | (refine g_hstore ?_; (refine s_hstoreB ?_; intro G' hle ho hkp))) | (with_reducible refine i_vc ?_; first | refine v_seq ?_ | refine v_ops ?_ | (refine g_cond ?_; first | refine s_cond_t ?_ | refine s_cond_f ?_) | refine v_skip ?_ | refine v_ret ?_) | (with_reducible first | refine n_then ?_ | refine r_then ?_ | refine e_then ?_) | ((with_reducible first | refine s_cond_c ?_ ?_) <;> intro hb <;> rw [hb] <;> (try simp only [decide_eq_true_eq, decide_eq_false_iff_not, beq_iff_eq, bne_iff_ne, beq_eq_false_iff_ne, bne_eq_false_iff_eq, ne_eq, Int.not_lt, Int.not_le, gt_iff_lt, ge_iff_le, Bool.not_eq_true', Bool.not_eq_false'] at hb)) | ((with_reducible first | refine s_ret ?_ | refine s_normal ?_); try simp only [x_tup0, x_tup1, x_tup2, x_tup3, x_tup4, x_tup5, and_true, true_and])))
      · exfalso; omega
      simp only [if_neg hfk]
      refine o_hst (q := 5) (cs' := dc true A.room (.map (some mb)) (.map (some lb)) us ((f : Int) - k) A.gone) qrf qrf c1 rfl rfl (by show 5 < 7; decide) rfl ?_
      intro G1 g1 k1
      (repeat' (first | (with_reducible refine i_ops ?_; first | (refine g_mv ?_; refine s_mv ?_) | refine o_nil ?_ | (refine g_pure ?_; first | refine s_nilPf ?_ | refine s_nilPt ?_ | refine s_nilNf ?_ | refine s_nilNt ?_ | refine s_nilck ?_ | refine s_fptr0 ?_ | refine s_seq0 ?_ | refine s_lenSB ?_ | refine s_pure ?_ | refine s_saddB ?_) | (refine g_hload ?_; first | refine s_hbx ?_ | refine s_d0 ?_ | refine s_d1 ?_ | refine s_d2 ?_ | refine s_d3 ?_ | refine s_d4 ?_ | refine s_d5 ?_ | refine s_d6 ?_ | refine s_hloadP ?_) | (refine g_hstore ?_; (refine s_hstoreB ?_; intro G' hle ho hkp))) | (with_reducible refine i_vc ?_; first | refine v_seq ?_ | refine v_ops ?_ | (refine g_cond ?_; first | refine s_cond_t ?_ | refine s_cond_f ?_) | refine v_skip ?_ | refine v_ret ?_) | (with_reducible first | refine n_then ?_ | refine r_then ?_ | refine e_then ?_) | ((with_reducible first | refine s_cond_c ?_ ?_) <;> intro hb <;> rw [hb] <;> (try simp only [decide_eq_true_eq, decide_eq_false_iff_not, beq_iff_eq, bne_iff_ne, beq_eq_false_iff_ne, bne_eq_false_iff_eq, ne_eq, Int.not_lt, Int.not_le, gt_iff_lt, ge_iff_le, Bool.not_eq_true', Bool.not_eq_false'] at hb)) | ((with_reducible first | refine s_ret ?_ | refine s_normal ?_); try simp only [x_tup0, x_tup1, x_tup2, x_tup3, x_tup4, x_tup5, and_true, true_and])))
      refine o_hst (q := 6) (cs' := dc true A.room (.map (some mb)) (.map (some lb)) us ((f : Int) - k) (decide ((k : Int) < k))) qrf qrf g1 rfl rfl (by show 6 < 7; decide) rfl ?_
      intro G2 g2 k2
      (repeat' (first | (with_reducible refine i_ops ?_; first | (refine g_mv ?_; refine s_mv ?_) | refine o_nil ?_ | (refine g_pure ?_; first | refine s_nilPf ?_ | refine s_nilPt ?_ | refine s_nilNf ?_ | refine s_nilNt ?_ | refine s_nilck ?_ | refine s_fptr0 ?_ | refine s_seq0 ?_ | refine s_lenSB ?_ | refine s_pure ?_ | refine s_saddB ?_) | (refine g_hload ?_; first | refine s_hbx ?_ | refine s_d0 ?_ | refine s_d1 ?_ | refine s_d2 ?_ | refine s_d3 ?_ | refine s_d4 ?_ | refine s_d5 ?_ | refine s_d6 ?_ | refine s_hloadP ?_) | (refine g_hstore ?_; (refine s_hstoreB ?_; intro G' hle ho hkp))) | (with_reducible refine i_vc ?_; first | refine v_seq ?_ | refine v_ops ?_ | (refine g_cond ?_; first | refine s_cond_t ?_ | refine s_cond_f ?_) | refine v_skip ?_ | refine v_ret ?_) | (with_reducible first | refine n_then ?_ | refine r_then ?_ | refine e_then ?_) | ((with_reducible first | refine s_cond_c ?_ ?_) <;> intro hb <;> rw [hb] <;> (try simp only [decide_eq_true_eq, decide_eq_false_iff_not, beq_iff_eq, bne_iff_ne, beq_eq_false_iff_ne, bne_eq_false_iff_eq, ne_eq, Int.not_lt, Int.not_le, gt_iff_lt, ge_iff_le, Bool.not_eq_true', Bool.not_eq_false'] at hb)) | ((with_reducible first | refine s_ret ?_ | refine s_normal ?_); try simp only [x_tup0, x_tup1, x_tup2, x_tup3, x_tup4, x_tup5, and_true, true_and])))
      refine ⟨by rw [e1], fin G1 G2 k1 k2 ?_⟩
      rw [e2]
      rw [decide_eq_false (Int.lt_irrefl _), ← e3] at g2
      exact g2
end
end Go.Proofs.Ytbmhdmkmnhaffaa.V
end
section
/- Something is done on the program's disk. -/
set_option linter.unusedVariables false
set_option linter.unusedSimpArgs false
-- @pre g_hload s_hbx s_d0 s_d1 s_d2 s_d3 s_d4 s_d5 s_d6
-- @extra s_nilPf s_nilPt s_nilNf s_nilNt s_nilck s_fptr0 s_seq0 s_lenSB
namespace Go.Proofs.Ytbmhdmkmnhaffaa.V
open Go.RowKit Go.ChangeShapes Go.WideShapes
theorem AU.to_ok {u : AU} {fs : Fis} {k : Nat} (h : u.ok fs) (h0 : 1 ≤ k) (h1 : k ≤ u.many) : (u.to k).ok fs ∧ (u.to k).many = k := by
  cases u with
  | app s bs m => exact ⟨⟨h0, Nat.le_trans h1 h.2⟩, rfl⟩
  | repl s s' => exact ⟨h, by have : k ≤ 1 := h1; show 1 = k; omega⟩
  | rem s => exact ⟨h, by have : k ≤ 1 := h1; show 1 = k; omega⟩
  | cut s n => exact ⟨h, by have : k ≤ 1 := h1; show 1 = k; omega⟩
theorem UnitV.to {I : GH} {fv : Value} {u : AU} (h : UnitV I fv u) (k : Nat) : UnitV I fv (u.to k) := by cases u <;> exact h
theorem AU.many_le {u : AU} {fs : Fis} {N : Nat} (h : u.ok fs) (hs : FSo fs) (hf : Fine N (u.ap u.many fs)) : u.many ≤ 1048577 := by
  cases u with
  | app s bs m =>
    have e2 := usF_put (s := s) (v := fg s fs ++ bs.take (m - 1)) hs
    have e3 : usF (fput s (fg s fs ++ bs.take (m - 1)) fs) ≤ 1048576 := hf.us
    have e4 := fg_le (s := s) hs
    have h2 : m ≤ bs.length + 1 := h.2
    rw [List.length_append, List.length_take] at e2
    show m ≤ _
    omega
  | repl s s' => show 1 ≤ _; omega
  | rem s => show 1 ≤ _; omega
  | cut s n => show 1 ≤ _; omega
section
variable {N : Nat} {I G : GH} {b mb : Nat} {us : Value} {A : AD} {mo : Obj} {m : AM} {fs : Fis}
/-- A unit's function, called. -/
theorem unit1 {u : AU} {fv : Value} {k : Nat} (hu : UnitV I fv u) (hI : I.le G) (hg : G mb = some mo) (hm : MapO mo m) (hr : MR I m fs) (hn : I mb = none) (hok : u.ok fs) (hs : FSo fs) (hf : Fine N (u.ap u.many fs)) (h0 : 1 ≤ k) (h1 : k ≤ u.many) :
    ∃ f caps, fv = .func (.func f) #[] caps ∧ callable Try.prog f = true ∧ HC Try.prog f (#[] ++ [Value.map (some mb), .int .i64 k].toArray ++ caps) G fun v G' => Aft I G mb (u.ap k fs) G' := by
  cases u with
  | app s bs i =>
    obtain ⟨nb, ab, w, tn, ta, e, e1, e2, e3⟩ := hu
    have g2 := usF_put (s := s) (v := fg s fs ++ bs.take (i - 1)) hs
    have g3 : usF (fput s (fg s fs ++ bs.take (i - 1)) fs) ≤ 1048576 := hf.us
    have g4 := fg_le (s := s) hs
    have h2 : i ≤ bs.length + 1 := hok.2
    have h3 : k ≤ i := h1
    rw [List.length_append, List.length_take] at g2
    exact ⟨_, _, e, by kernel_rfl, app1 s bs k nb ab tn ta w hI e1 e2 e3 hg hm hr hn ⟨h0, by omega⟩ (by omega) i⟩
  | repl s s' =>
    obtain ⟨nb, ab, tn, ta, e, e1, e2⟩ := hu
    exact ⟨_, _, e, by kernel_rfl, repl1 s s' nb ab tn ta hI e1 e2 hg hm hr hn⟩
  | rem s =>
    obtain ⟨nb, tn, e, e1⟩ := hu
    exact ⟨_, _, e, by kernel_rfl, rem1 s nb tn hI e1 hg hm hr hn⟩
  | cut s n =>
    obtain ⟨nb, ab, tn, ta, e, e1, e2⟩ := hu
    exact ⟨_, _, e, by kernel_rfl, cut1 s n nb ab tn ta hI e1 e2 hg hm hr hn hok⟩
theorem powerP (h : PD N I G b mb us A) : HC Try.prog 32 #[pt b] G fun v G' => v = .int .i64 A.err ∧ G' = G := by
  obtain ⟨lb, t, q1, _⟩ := h.cell
  exact powerF q1
theorem nobodyP (h : PD N I G b mb us A) : HC Try.prog 35 #[pt b] G fun v G' => v = .bool false ∧ G' = G := by
  obtain ⟨lb, t, q1, _⟩ := h.cell
  exact noneF q1
theorem doesP (h : PD N I G b mb us A) (hN : N ≤ 1000000) {u : AU} {f : FuncId} {caps : Array Value} (hu : UnitV I (.func (.func f) #[] caps) u) (hok : u.ok A.now) (hf : Fine (N + 1) (u.ap u.many A.now)) :
    HC Try.prog 51 #[pt b, .int .i64 u.many, .func (.func f) #[] caps] G fun v G' => v = .int .i64 (A.does u).err ∧ ∃ I' us', I.le I' ∧ PD (N + 1) I' G' b mb us' (A.does u) := by
  have hml := AU.many_le hok h.ok.nf.so hf
  have hOk := h.ok.does (fun k h0 h1 => AU.to_ok hok h0 h1) hf
  have c1 := burnP h u.many (by omega)
  have hbl := AD.burn_le (A := A) (k := u.many)
  obtain ⟨bn1, bn2, bn3, bn4⟩ := AD.burnt_now (A := A) (k := u.many)
  refine HC.start comp51 rfl ?_; unfold pc51
  (repeat' (first | (with_reducible refine i_ops ?_; first | (refine g_mv ?_; refine s_mv ?_) | refine o_nil ?_ | (refine g_build ?_; first | refine s_build ?_ | refine s_buildP ?_) | (refine g_pure ?_; first | refine s_nilPf ?_ | refine s_nilPt ?_ | refine s_nilNf ?_ | refine s_nilNt ?_ | refine s_nilck ?_ | refine s_fptr0 ?_ | refine s_seq0 ?_ | refine s_lenSB ?_ | refine s_pure ?_ | refine s_saddB ?_) | (refine g_hload ?_; first | refine s_hbx ?_ | refine s_d0 ?_ | refine s_d1 ?_ | refine s_d2 ?_ | refine s_d3 ?_ | refine s_d4 ?_ | refine s_d5 ?_ | refine s_d6 ?_ | refine s_hloadP ?_) | (refine g_hstore ?_; (refine s_hstoreB ?_; intro G' hle ho hkp))) | (with_reducible refine i_vc ?_; first | refine v_seq ?_ | refine v_ops ?_ | (refine g_cond ?_; first | refine s_cond_t ?_ | refine s_cond_f ?_) | refine v_skip ?_ | refine v_ret ?_) | (with_reducible first | refine n_then ?_ | refine r_then ?_ | refine e_then ?_) | ((with_reducible first | refine s_cond_c ?_ ?_) <;> intro hb <;> rw [hb] <;> (try simp only [decide_eq_true_eq, decide_eq_false_iff_not, beq_iff_eq, bne_iff_ne, beq_eq_false_iff_ne, bne_eq_false_iff_eq, ne_eq, Int.not_lt, Int.not_le, gt_iff_lt, ge_iff_le, Bool.not_eq_true', Bool.not_eq_false'] at hb)) | ((with_reducible first | refine s_ret ?_ | refine s_normal ?_); try simp only [x_tup0, x_tup1, x_tup2, x_tup3, x_tup4, x_tup5, and_true, true_and])))
  refine o_callc qrf c1 ?_
  rintro _ G1 ⟨rfl, p1⟩
  generalize hk : A.burn u.many = k at *
  (repeat' (first | (with_reducible refine i_ops ?_; first | (refine g_mv ?_; refine s_mv ?_) | refine o_nil ?_ | (refine g_build ?_; first | refine s_build ?_ | refine s_buildP ?_) | (refine g_pure ?_; first | refine s_nilPf ?_ | refine s_nilPt ?_ | refine s_nilNf ?_ | refine s_nilNt ?_ | refine s_nilck ?_ | refine s_fptr0 ?_ | refine s_seq0 ?_ | refine s_lenSB ?_ | refine s_pure ?_ | refine s_saddB ?_) | (refine g_hload ?_; first | refine s_hbx ?_ | refine s_d0 ?_ | refine s_d1 ?_ | refine s_d2 ?_ | refine s_d3 ?_ | refine s_d4 ?_ | refine s_d5 ?_ | refine s_d6 ?_ | refine s_hloadP ?_) | (refine g_hstore ?_; (refine s_hstoreB ?_; intro G' hle ho hkp))) | (with_reducible refine i_vc ?_; first | refine v_seq ?_ | refine v_ops ?_ | (refine g_cond ?_; first | refine s_cond_t ?_ | refine s_cond_f ?_) | refine v_skip ?_ | refine v_ret ?_) | (with_reducible first | refine n_then ?_ | refine r_then ?_ | refine e_then ?_) | ((with_reducible first | refine s_cond_c ?_ ?_) <;> intro hb <;> rw [hb] <;> (try simp only [decide_eq_true_eq, decide_eq_false_iff_not, beq_iff_eq, bne_iff_ne, beq_eq_false_iff_ne, bne_eq_false_iff_eq, ne_eq, Int.not_lt, Int.not_le, gt_iff_lt, ge_iff_le, Bool.not_eq_true', Bool.not_eq_false'] at hb)) | ((with_reducible first | refine s_ret ?_ | refine s_normal ?_); try simp only [x_tup0, x_tup1, x_tup2, x_tup3, x_tup4, x_tup5, and_true, true_and])))
  · obtain ⟨lb, t, q1, q2⟩ := p1.cell
    obtain ⟨mo, m, n1, n2, n3⟩ := p1.now
    rw [bn1] at n3
    obtain ⟨f', caps', e, ec, hc⟩ := unit1 (k := k) hu p1.le n1 n2 n3 p1.im hok h.ok.nf.so hf (by omega) hbl
    cases e
    (repeat' (first | (with_reducible refine i_ops ?_; first | (refine g_mv ?_; refine s_mv ?_) | refine o_nil ?_ | (refine g_build ?_; first | refine s_build ?_ | refine s_buildP ?_) | (refine g_pure ?_; first | refine s_nilPf ?_ | refine s_nilPt ?_ | refine s_nilNf ?_ | refine s_nilNt ?_ | refine s_nilck ?_ | refine s_fptr0 ?_ | refine s_seq0 ?_ | refine s_lenSB ?_ | refine s_pure ?_ | refine s_saddB ?_) | (refine g_hload ?_; first | refine s_hbx ?_ | refine s_d0 ?_ | refine s_d1 ?_ | refine s_d2 ?_ | refine s_d3 ?_ | refine s_d4 ?_ | refine s_d5 ?_ | refine s_d6 ?_ | refine s_hloadP ?_) | (refine g_hstore ?_; (refine s_hstoreB ?_; intro G' hle ho hkp))) | (with_reducible refine i_vc ?_; first | refine v_seq ?_ | refine v_ops ?_ | (refine g_cond ?_; first | refine s_cond_t ?_ | refine s_cond_f ?_) | refine v_skip ?_ | refine v_ret ?_) | (with_reducible first | refine n_then ?_ | refine r_then ?_ | refine e_then ?_) | ((with_reducible first | refine s_cond_c ?_ ?_) <;> intro hb <;> rw [hb] <;> (try simp only [decide_eq_true_eq, decide_eq_false_iff_not, beq_iff_eq, bne_iff_ne, beq_eq_false_iff_ne, bne_eq_false_iff_eq, ne_eq, Int.not_lt, Int.not_le, gt_iff_lt, ge_iff_le, Bool.not_eq_true', Bool.not_eq_false'] at hb)) | ((with_reducible first | refine s_ret ?_ | refine s_normal ?_); try simp only [x_tup0, x_tup1, x_tup2, x_tup3, x_tup4, x_tup5, and_true, true_and])))
    refine o_callv qrf qrf ec rfl hc ?_
    rintro v G2 ⟨I2, mo2, m2, i1, i2, i3, i4, i5, i6, i7, i8⟩
    have q3 := i7 _ _ p1.bm q1
    obtain ⟨xs, u1, u2⟩ := p1.un
    have hus : ∀ c, blkS us = some c → I2 c = none := fun c hc => by
      obtain ⟨e1, o, e2⟩ := u2.none_ hc
      cases hi : I2 c with
      | none => rfl
      | some o' => rcases i8 c (by rw [hi]; simp) with e | e
                   · exact absurd e1 e
                   · rw [e] at e2; cases e2
    have hb2 : I2 b = none := by
      cases hi : I2 b with
      | none => rfl
      | some o' => rcases i8 b (by rw [hi]; simp) with e | e
                   · exact absurd p1.ib e
                   · rw [e] at q1; cases q1
    have u3 : Own 2 I2 G2 us xs := (u2.keep fun c hc o ho => i7 c o (fun e => p1.um (e ▸ hc)) ho).rebase hus
    rw [bn3] at u1
    have hxl := u1.len
    have hun := h.ok.un
    have hl2 := u3.sl.len
    obtain ⟨ua, ul, uc, rfl⟩ := u3.shape
    (repeat' (first | (with_reducible refine i_ops ?_; first | (refine g_mv ?_; refine s_mv ?_) | refine o_nil ?_ | (refine g_build ?_; first | refine s_build ?_ | refine s_buildP ?_) | (refine g_pure ?_; first | refine s_nilPf ?_ | refine s_nilPt ?_ | refine s_nilNf ?_ | refine s_nilNt ?_ | refine s_nilck ?_ | refine s_fptr0 ?_ | refine s_seq0 ?_ | refine s_lenSB ?_ | refine s_pure ?_ | refine s_saddB ?_) | (refine g_hload ?_; first | refine s_hbx ?_ | refine s_d0 ?_ | refine s_d1 ?_ | refine s_d2 ?_ | refine s_d3 ?_ | refine s_d4 ?_ | refine s_d5 ?_ | refine s_d6 ?_ | refine s_hloadP ?_) | (refine g_hstore ?_; (refine s_hstoreB ?_; intro G' hle ho hkp))) | (with_reducible refine i_vc ?_; first | refine v_seq ?_ | refine v_ops ?_ | (refine g_cond ?_; first | refine s_cond_t ?_ | refine s_cond_f ?_) | refine v_skip ?_ | refine v_ret ?_) | (with_reducible first | refine n_then ?_ | refine r_then ?_ | refine e_then ?_) | ((with_reducible first | refine s_cond_c ?_ ?_) <;> intro hb <;> rw [hb] <;> (try simp only [decide_eq_true_eq, decide_eq_false_iff_not, beq_iff_eq, bne_iff_ne, beq_eq_false_iff_ne, bne_eq_false_iff_eq, ne_eq, Int.not_lt, Int.not_le, gt_iff_lt, ge_iff_le, Bool.not_eq_true', Bool.not_eq_false'] at hb)) | ((with_reducible first | refine s_ret ?_ | refine s_normal ?_); try simp only [x_tup0, x_tup1, x_tup2, x_tup3, x_tup4, x_tup5, and_true, true_and])))
    refine o_bslice (cs := #[.int .i64 k, .func (.func f) #[] caps]) qrf rfl ?_
    intro nb hnb
    have o1 : Own 2 G2 (G2.put nb (.cells #[.int .i64 k, .func (.func f) #[] caps] 74)) (.slice (some ⟨nb, 0, none⟩) 1 1) [.int .i64 k, .func (.func f) #[] caps] := .inr ⟨nb, [], hnb, OwnB.fresh rfl rfl (Nat.le_refl _) (by decide) (by simp)⟩
    have g2 : G2.le (G2.put nb (.cells #[.int .i64 k, .func (.func f) #[] caps] 74)) := GH.le_put _ hnb
    generalize G2.put nb _ = G3 at o1 g2 ⊢
    (repeat' (first | (with_reducible refine i_ops ?_; first | (refine g_mv ?_; refine s_mv ?_) | refine o_nil ?_ | (refine g_build ?_; first | refine s_build ?_ | refine s_buildP ?_) | (refine g_pure ?_; first | refine s_nilPf ?_ | refine s_nilPt ?_ | refine s_nilNf ?_ | refine s_nilNt ?_ | refine s_nilck ?_ | refine s_fptr0 ?_ | refine s_seq0 ?_ | refine s_lenSB ?_ | refine s_pure ?_ | refine s_saddB ?_) | (refine g_hload ?_; first | refine s_hbx ?_ | refine s_d0 ?_ | refine s_d1 ?_ | refine s_d2 ?_ | refine s_d3 ?_ | refine s_d4 ?_ | refine s_d5 ?_ | refine s_d6 ?_ | refine s_hloadP ?_) | (refine g_hstore ?_; (refine s_hstoreB ?_; intro G' hle ho hkp))) | (with_reducible refine i_vc ?_; first | refine v_seq ?_ | refine v_ops ?_ | (refine g_cond ?_; first | refine s_cond_t ?_ | refine s_cond_f ?_) | refine v_skip ?_ | refine v_ret ?_) | (with_reducible first | refine n_then ?_ | refine r_then ?_ | refine e_then ?_) | ((with_reducible first | refine s_cond_c ?_ ?_) <;> intro hb <;> rw [hb] <;> (try simp only [decide_eq_true_eq, decide_eq_false_iff_not, beq_iff_eq, bne_iff_ne, beq_eq_false_iff_ne, bne_eq_false_iff_eq, ne_eq, Int.not_lt, Int.not_le, gt_iff_lt, ge_iff_le, Bool.not_eq_true', Bool.not_eq_false'] at hb)) | ((with_reducible first | refine s_ret ?_ | refine s_normal ?_); try simp only [x_tup0, x_tup1, x_tup2, x_tup3, x_tup4, x_tup5, and_true, true_and])))
    refine o_appendO qrf qrf (u3.le g2) o1.sl rfl rfl (GH.le_trans i2 g2) (by simp only [lenS] at hl2 ⊢; omega) ?_
    intro u' G4 a1 a2 a3 a4 a5
    have q4 := a4 b h.ub _ (g2 _ _ q3)
    have m4 := a4 mb h.um _ (g2 _ _ i3)
    have ub' : blkS u' ≠ some b := by
      rcases a5 with e | ⟨c, e, ec⟩
      · rw [e]; exact h.ub
      · rw [e]; intro e'; cases e'; rw [g2 _ _ q3] at ec; cases ec
    have um' : blkS u' ≠ some mb := by
      rcases a5 with e | ⟨c, e, ec⟩
      · rw [e]; exact h.um
      · rw [e]; intro e'; cases e'; rw [g2 _ _ i3] at ec; cases ec
    obtain ⟨a5a, a5l, a5c, rfl⟩ := a2.shape
    (repeat' (first | (with_reducible refine i_ops ?_; first | (refine g_mv ?_; refine s_mv ?_) | refine o_nil ?_ | (refine g_build ?_; first | refine s_build ?_ | refine s_buildP ?_) | (refine g_pure ?_; first | refine s_nilPf ?_ | refine s_nilPt ?_ | refine s_nilNf ?_ | refine s_nilNt ?_ | refine s_nilck ?_ | refine s_fptr0 ?_ | refine s_seq0 ?_ | refine s_lenSB ?_ | refine s_pure ?_ | refine s_saddB ?_) | (refine g_hload ?_; first | refine s_hbx ?_ | refine s_d0 ?_ | refine s_d1 ?_ | refine s_d2 ?_ | refine s_d3 ?_ | refine s_d4 ?_ | refine s_d5 ?_ | refine s_d6 ?_ | refine s_hloadP ?_) | (refine g_hstore ?_; (refine s_hstoreB ?_; intro G' hle ho hkp))) | (with_reducible refine i_vc ?_; first | refine v_seq ?_ | refine v_ops ?_ | (refine g_cond ?_; first | refine s_cond_t ?_ | refine s_cond_f ?_) | refine v_skip ?_ | refine v_ret ?_) | (with_reducible first | refine n_then ?_ | refine r_then ?_ | refine e_then ?_) | ((with_reducible first | refine s_cond_c ?_ ?_) <;> intro hb <;> rw [hb] <;> (try simp only [decide_eq_true_eq, decide_eq_false_iff_not, beq_iff_eq, bne_iff_ne, beq_eq_false_iff_ne, bne_eq_false_iff_eq, ne_eq, Int.not_lt, Int.not_le, gt_iff_lt, ge_iff_le, Bool.not_eq_true', Bool.not_eq_false'] at hb)) | ((with_reducible first | refine s_ret ?_ | refine s_normal ?_); try simp only [x_tup0, x_tup1, x_tup2, x_tup3, x_tup4, x_tup5, and_true, true_and])))
    refine o_hst (q := 4) qrf qrf q4 rfl rfl (by show 4 < 7; decide) rfl ?_
    intro G5 g5 k5
    have eA : A.does u = { A.burnt u.many with now := (u.to k).ap k A.now, units := A.units ++ [u.to k] } := by
      unfold AD.does
      rw [hk]
      exact if_pos (by omega)
    have P5 : PD (N + 1) I2 G5 b mb (.slice a5a a5l a5c) (A.does u) := by
      have hun2 := UnF.snoc (hu.to k |>.le i1) (u1.le i1)
      rw [(AU.to_ok hok (by omega) hbl).2] at hun2
      have hq2 : (A.does u).lasts = A.lasts := by rw [eA]; exact bn2
      have hfz := p1.fz
      have hap : (u.to k).ap k A.now = u.ap k A.now := by cases u <;> rfl
      refine ⟨le_but a1 hb2 k5, hb2, i6, h.bm, ub', um', ⟨lb, t, ?_, ?_⟩, ⟨mo2, m2, by rw [k5 mb h.bm.symm]; exact m4, i4, ?_⟩, ⟨_, ?_, a2.keep fun c hc o ho => by rw [k5 c (fun e => ub' (e ▸ hc))]; exact ho⟩, hOk, ?_⟩
      · rw [eA]; exact g5
      · rw [hq2, ← bn2]
        obtain ⟨lo, lm, w1, w2, w3⟩ := q2
        exact ⟨lo, lm, i1 _ _ w1, w2, w3.le i1⟩
      · rw [eA]
        show MR I2 m2 ((u.to k).ap k A.now)
        rw [hap]; exact i5
      · rw [eA]; exact hun2
      · rw [eA]; exact hfz
    have c3 := powerP P5
    (repeat' (first | (with_reducible refine i_ops ?_; first | (refine g_mv ?_; refine s_mv ?_) | refine o_nil ?_ | (refine g_build ?_; first | refine s_build ?_ | refine s_buildP ?_) | (refine g_pure ?_; first | refine s_nilPf ?_ | refine s_nilPt ?_ | refine s_nilNf ?_ | refine s_nilNt ?_ | refine s_nilck ?_ | refine s_fptr0 ?_ | refine s_seq0 ?_ | refine s_lenSB ?_ | refine s_pure ?_ | refine s_saddB ?_) | (refine g_hload ?_; first | refine s_hbx ?_ | refine s_d0 ?_ | refine s_d1 ?_ | refine s_d2 ?_ | refine s_d3 ?_ | refine s_d4 ?_ | refine s_d5 ?_ | refine s_d6 ?_ | refine s_hloadP ?_) | (refine g_hstore ?_; (refine s_hstoreB ?_; intro G' hle ho hkp)) | refine o_callp qrf (by first | exact c3) ?_ | (refine o_callg qrf (by first | exact c3) ?_; intro G' hle)) | (with_reducible refine i_vc ?_; first | refine v_seq ?_ | refine v_ops ?_ | (refine g_cond ?_; first | refine s_cond_t ?_ | refine s_cond_f ?_) | refine v_skip ?_ | refine v_ret ?_) | (with_reducible first | refine n_then ?_ | refine r_then ?_ | refine e_then ?_) | ((with_reducible first | refine s_cond_c ?_ ?_) <;> intro hb <;> rw [hb] <;> (try simp only [decide_eq_true_eq, decide_eq_false_iff_not, beq_iff_eq, bne_iff_ne, beq_eq_false_iff_ne, bne_eq_false_iff_eq, ne_eq, Int.not_lt, Int.not_le, gt_iff_lt, ge_iff_le, Bool.not_eq_true', Bool.not_eq_false'] at hb)) | ((with_reducible first | refine s_ret ?_ | refine s_normal ?_); try simp only [x_tup0, x_tup1, x_tup2, x_tup3, x_tup4, x_tup5, and_true, true_and])))
    exact ⟨I2, _, i1, P5⟩
  · have eA : A.does u = A.burnt u.many := by
      unfold AD.does
      rw [hk]
      exact if_neg (by omega)
    rw [eA]
    have c3 := powerP p1
    (repeat' (first | (with_reducible refine i_ops ?_; first | (refine g_mv ?_; refine s_mv ?_) | refine o_nil ?_ | (refine g_build ?_; first | refine s_build ?_ | refine s_buildP ?_) | (refine g_pure ?_; first | refine s_nilPf ?_ | refine s_nilPt ?_ | refine s_nilNf ?_ | refine s_nilNt ?_ | refine s_nilck ?_ | refine s_fptr0 ?_ | refine s_seq0 ?_ | refine s_lenSB ?_ | refine s_pure ?_ | refine s_saddB ?_) | (refine g_hload ?_; first | refine s_hbx ?_ | refine s_d0 ?_ | refine s_d1 ?_ | refine s_d2 ?_ | refine s_d3 ?_ | refine s_d4 ?_ | refine s_d5 ?_ | refine s_d6 ?_ | refine s_hloadP ?_) | (refine g_hstore ?_; (refine s_hstoreB ?_; intro G' hle ho hkp)) | refine o_callp qrf (by first | exact c3) ?_ | (refine o_callg qrf (by first | exact c3) ?_; intro G' hle)) | (with_reducible refine i_vc ?_; first | refine v_seq ?_ | refine v_ops ?_ | (refine g_cond ?_; first | refine s_cond_t ?_ | refine s_cond_f ?_) | refine v_skip ?_ | refine v_ret ?_) | (with_reducible first | refine n_then ?_ | refine r_then ?_ | refine e_then ?_) | ((with_reducible first | refine s_cond_c ?_ ?_) <;> intro hb <;> rw [hb] <;> (try simp only [decide_eq_true_eq, decide_eq_false_iff_not, beq_iff_eq, bne_iff_ne, beq_eq_false_iff_ne, bne_eq_false_iff_eq, ne_eq, Int.not_lt, Int.not_le, gt_iff_lt, ge_iff_le, Bool.not_eq_true', Bool.not_eq_false'] at hb)) | ((with_reducible first | refine s_ret ?_ | refine s_normal ?_); try simp only [x_tup0, x_tup1, x_tup2, x_tup3, x_tup4, x_tup5, and_true, true_and])))
    exact ⟨I, us, GH.le_refl _, { p1 with ok := p1.ok.mono (Nat.le_succ _) }⟩
end
end Go.Proofs.Ytbmhdmkmnhaffaa.V
end
