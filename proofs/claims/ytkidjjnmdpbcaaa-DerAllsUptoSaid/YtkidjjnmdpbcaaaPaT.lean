/- All elements that stand one behind the other. -/
import Derived.Test.YtkidjjnmdpbcaaaPaR
import Derived.Test.YtkidjjnmdpbcaaaPaCG
set_option linter.unusedSimpArgs false
set_option linter.unusedVariables false
namespace Go.Proofs.Ytkidjjnmdpbcaaa.V
open Go.RowKit Go.ChangeShapes Go.WideShapes
/-- Elements in memory, one behind the other, each content one's own. -/
def RowsO (G0 G : GH) (bs : List UInt8) (k : Nat) (xs : List Value) : Prop := ∃ wf : Nat → Value, xs.length = 2 * k ∧ (∀ i, i < k → (xs.drop (i * 2)).take 2 = [.int .i64 (rowK bs i), wf i] ∧ Own 1 G0 G (wf i) ((rowD bs i).map bv)) ∧
  ∀ i j, i < j → j < k → ∀ c, blkS (wf j) = some c → blkS (wf i) ≠ some c
theorem RowsO.le {G0 G G' : GH} {bs : List UInt8} {k : Nat} {xs : List Value} (h : RowsO G0 G bs k xs) (hl : G.le G') : RowsO G0 G' bs k xs :=
  let ⟨wf, h1, h2, h3⟩ := h; ⟨wf, h1, fun i hi => ⟨(h2 i hi).1, (h2 i hi).2.le hl⟩, h3⟩
theorem RowsO.base {G0 G1 G : GH} {bs : List UInt8} {k : Nat} {xs : List Value} (h : RowsO G1 G bs k xs) (hl : G0.le G1) : RowsO G0 G bs k xs :=
  let ⟨wf, h1, h2, h3⟩ := h; ⟨wf, h1, fun i hi => ⟨(h2 i hi).1, (h2 i hi).2.base hl⟩, h3⟩
theorem RowsO.nil (G0 G : GH) (bs : List UInt8) : RowsO G0 G bs 0 [] := ⟨fun _ => .slice none 0 0, rfl, fun i hi => absurd hi (Nat.not_lt_zero _), fun i j _ hj => absurd hj (Nat.not_lt_zero _)⟩
theorem RowsO.snoc {G0 G G' : GH} {bs : List UInt8} {k : Nat} {xs : List Value} {w : Value} (h : RowsO G0 G bs k xs) (hl : G.le G') (hw : Own 1 G0 G' w ((rowD bs k).map bv)) (hn : ∀ c, blkS w = some c → G c = none) : RowsO G0 G' bs (k + 1) (xs ++ [.int .i64 (rowK bs k), w]) := by
  obtain ⟨wf, h1, h2, h3⟩ := h
  refine ⟨fun i => if i < k then wf i else w, by simp [h1]; omega, fun i hi => ?_, fun i j hij hj c hc => ?_⟩
  · by_cases e : i < k
    · obtain ⟨e1, e2⟩ := h2 i e
      simp only [e, if_true]
      refine ⟨?_, e2.le hl⟩
      rw [List.drop_append_of_le_length (by omega), List.take_append_of_le_length (by rw [List.length_drop]; omega)]; exact e1
    · obtain rfl : i = k := by omega
      simp only [e, if_false]
      refine ⟨?_, hw⟩
      rw [List.drop_append, List.drop_eq_nil_of_le (by omega), h1, show i * 2 - 2 * i = 0 by omega]; rfl
  · have hi : i < k := by omega
    simp only [hi, if_true]
    by_cases e : j < k
    · simp only [e, if_true] at hc
      exact h3 i j hij e c hc
    · simp only [e, if_false] at hc
      intro hi2
      obtain ⟨o, ho, _⟩ := (h2 i hi).2.at_ hi2
      rw [hn c hc] at ho; cases ho
/-- What All tells. -/
def AllR (bs : List UInt8) (G : GH) (v : Value) (G' : GH) : Prop := G.le G' ∧ ∃ l, v = .tuple #[l, .int .i64 (rowE bs), .int .i64 (rowB bs)] ∧
  ((rowE bs = bs.length ∧ ∃ xs B, B.le G' ∧ Own 2 G G' l xs ∧ RowsO G B bs (rowN bs) xs ∧ G.le B ∧ ∀ c, blkS l = some c → B c = none) ∨ (rowE bs < bs.length ∧ l = .slice none 0 0))
set_option maxHeartbeats 1000000 in
theorem all29 (u : Value) (bs : List UInt8) (G : GH) (h : By G u bs) (hl : bs.length ≤ 67108864) : HC Try.prog 29 #[u] G fun v G' => AllR bs G v G' := by
  obtain ⟨ua, un, uc, rfl⟩ := h.shape
  refine HC.start comp29 rfl ?_; unfold pc29
  (repeat' (first | (with_reducible refine i_ops ?_; first | (refine g_mv ?_; refine s_mv ?_) | refine o_nil ?_ | (refine g_len ?_; first | refine s_lenB ?_ | refine s_pure ?_) | (refine g_slc ?_; ((first | refine s_slcB ?_ | refine s_slcB01 ?_ | refine s_slcB10 ?_); intro us hus hbs)) | (refine g_pure ?_; first | refine s_pure ?_ | refine s_saddB ?_) | (refine g_lfield ?_; refine s_lfield ?_) | (refine g_lload ?_; refine s_lload ?_) | (refine g_lstore ?_; first | refine s_lstoreA ?_ | refine s_lstore ?_) | (refine g_lalloc ?_; refine s_lalloc ?_) | (refine g_hload ?_; refine s_hloadP ?_) | (refine g_hstore ?_; (refine s_hstoreB ?_; intro G' hle ho hkp))) | (with_reducible refine i_vc ?_; first | refine v_seq ?_ | refine v_ops ?_ | (refine g_cond ?_; first | refine s_cond_t ?_ | refine s_cond_f ?_) | refine v_block ?_ | refine v_skip ?_ | refine v_exit ?_ | refine v_ret ?_ | refine s_drawl ?_ | refine v_draw0 ?_) | (with_reducible refine i_plan ?_; first | refine p_done ?_ | refine s_pre ?_ | refine s_preN ?_ | refine s_ag_t ?_ | refine s_ag_f ?_ | refine s_alt ?_ | refine p_alt ?_ ?_) | (with_reducible first | refine n_then ?_ | refine r_then ?_ | refine e_then ?_ | refine n_block ?_ | refine r_block ?_ | refine e_block_eq (by with_unfolding_all rfl) ?_ | refine e_block_ne (by with_unfolding_all rfl) ?_ | (refine g_stand ?_; first | refine s_stand ?_ | refine s_standL ?_)) | ((with_reducible first | refine s_cond_c ?_ ?_) <;> intro hb <;> rw [hb] <;> (try simp only [decide_eq_true_eq, decide_eq_false_iff_not, beq_iff_eq, bne_iff_ne, beq_eq_false_iff_ne, bne_eq_false_iff_eq, ne_eq, Int.not_lt, Int.not_le, gt_iff_lt, ge_iff_le, Bool.not_eq_true', Bool.not_eq_false'] at hb)) | ((with_reducible first | refine s_ret ?_ | refine s_normal ?_); try simp only [x_tup0, x_tup1, x_tup2, x_tup3, x_tup4, x_tup5, and_true, true_and])))
  refine o_halloc ?_
  intro b5 h5
  have g1 := GH.le_put (.cells #[.slice none 0 0] 56) h5
  have v5 := GH.put_same G b5 (bx (.slice none 0 0) 56)
  generalize G.put b5 _ = G1 at g1 v5 ⊢
  (repeat' (first | (with_reducible refine i_ops ?_; first | (refine g_mv ?_; refine s_mv ?_) | refine o_nil ?_ | (refine g_len ?_; first | refine s_lenB ?_ | refine s_pure ?_) | (refine g_slc ?_; ((first | refine s_slcB ?_ | refine s_slcB01 ?_ | refine s_slcB10 ?_); intro us hus hbs)) | (refine g_pure ?_; first | refine s_pure ?_ | refine s_saddB ?_) | (refine g_lfield ?_; refine s_lfield ?_) | (refine g_lload ?_; refine s_lload ?_) | (refine g_lstore ?_; first | refine s_lstoreA ?_ | refine s_lstore ?_) | (refine g_lalloc ?_; refine s_lalloc ?_) | (refine g_hload ?_; refine s_hloadP ?_) | (refine g_hstore ?_; (refine s_hstoreB ?_; intro G' hle ho hkp))) | (with_reducible refine i_vc ?_; first | refine v_seq ?_ | refine v_ops ?_ | (refine g_cond ?_; first | refine s_cond_t ?_ | refine s_cond_f ?_) | refine v_block ?_ | refine v_skip ?_ | refine v_exit ?_ | refine v_ret ?_ | refine s_drawl ?_ | refine v_draw0 ?_) | (with_reducible refine i_plan ?_; first | refine p_done ?_ | refine s_pre ?_ | refine s_preN ?_ | refine s_ag_t ?_ | refine s_ag_f ?_ | refine s_alt ?_ | refine p_alt ?_ ?_) | (with_reducible first | refine n_then ?_ | refine r_then ?_ | refine e_then ?_ | refine n_block ?_ | refine r_block ?_ | refine e_block_eq (by with_unfolding_all rfl) ?_ | refine e_block_ne (by with_unfolding_all rfl) ?_ | (refine g_stand ?_; first | refine s_stand ?_ | refine s_standL ?_)) | ((with_reducible first | refine s_cond_c ?_ ?_) <;> intro hb <;> rw [hb] <;> (try simp only [decide_eq_true_eq, decide_eq_false_iff_not, beq_iff_eq, bne_iff_ne, beq_eq_false_iff_ne, bne_eq_false_iff_eq, ne_eq, Int.not_lt, Int.not_le, gt_iff_lt, ge_iff_le, Bool.not_eq_true', Bool.not_eq_false'] at hb)) | ((with_reducible first | refine s_ret ?_ | refine s_normal ?_); try simp only [x_tup0, x_tup1, x_tup2, x_tup3, x_tup4, x_tup5, and_true, true_and])))
  refine o_boxv (.int .i64 0) (fun b => (by with_unfolding_all rfl)) rfl rfl rfl ?_
  intro b6 G2 h6 g2 v6
  have v5' := g2 _ _ v5
  have hne : b6 ≠ b5 := fun e => by subst e; rw [v5] at h6; cases h6
  have n6 : G b6 = none := le_none g1 h6
  have g02 := GH.le_trans g1 g2
  clear g1 g2 v5 h6
  (repeat' (first | (with_reducible refine i_ops ?_; first | (refine g_mv ?_; refine s_mv ?_) | refine o_nil ?_ | (refine g_len ?_; first | refine s_lenB ?_ | refine s_pure ?_) | (refine g_slc ?_; ((first | refine s_slcB ?_ | refine s_slcB01 ?_ | refine s_slcB10 ?_); intro us hus hbs)) | (refine g_pure ?_; first | refine s_pure ?_ | refine s_saddB ?_) | (refine g_lfield ?_; refine s_lfield ?_) | (refine g_lload ?_; refine s_lload ?_) | (refine g_lstore ?_; first | refine s_lstoreA ?_ | refine s_lstore ?_) | (refine g_lalloc ?_; refine s_lalloc ?_) | (refine g_hload ?_; refine s_hloadP ?_) | (refine g_hstore ?_; (refine s_hstoreB ?_; intro G' hle ho hkp))) | (with_reducible refine i_vc ?_; first | refine v_seq ?_ | refine v_ops ?_ | (refine g_cond ?_; first | refine s_cond_t ?_ | refine s_cond_f ?_) | refine v_block ?_ | refine v_skip ?_ | refine v_exit ?_ | refine v_ret ?_ | refine s_drawl ?_ | refine v_draw0 ?_) | (with_reducible refine i_plan ?_; first | refine p_done ?_ | refine s_pre ?_ | refine s_preN ?_ | refine s_ag_t ?_ | refine s_ag_f ?_ | refine s_alt ?_ | refine p_alt ?_ ?_) | (with_reducible first | refine n_then ?_ | refine r_then ?_ | refine e_then ?_ | refine n_block ?_ | refine r_block ?_ | refine e_block_eq (by with_unfolding_all rfl) ?_ | refine e_block_ne (by with_unfolding_all rfl) ?_ | (refine g_stand ?_; first | refine s_stand ?_ | refine s_standL ?_)) | ((with_reducible first | refine s_cond_c ?_ ?_) <;> intro hb <;> rw [hb] <;> (try simp only [decide_eq_true_eq, decide_eq_false_iff_not, beq_iff_eq, bne_iff_ne, beq_eq_false_iff_ne, bne_eq_false_iff_eq, ne_eq, Int.not_lt, Int.not_le, gt_iff_lt, ge_iff_le, Bool.not_eq_true', Bool.not_eq_false'] at hb)) | ((with_reducible first | refine s_ret ?_ | refine s_normal ?_); try simp only [x_tup0, x_tup1, x_tup2, x_tup3, x_tup4, x_tup5, and_true, true_and])))
  refine o_callc (by with_unfolding_all rfl) (each31 _ bs G2 (Sl.le h g02) (by omega)) ?_
  rintro _ G3 ⟨g3, be, w, rfl, e1, e2, e3⟩
  have v5 := g3 _ _ v5'
  have v6' := g3 _ _ v6
  have nb5 : be ≠ b5 := fun e => by subst e; rw [v5'] at e1; cases e1
  have nb6 : be ≠ b6 := fun e => by subst e; rw [v6] at e1; cases e1
  obtain ⟨Sb, hSb⟩ : ∃ Sb, Sb = unp (unp G3 b5) b6 := ⟨_, rfl⟩
  have s5 : Sb b5 = none := by rw [hSb, unp_ne (Ne.symm hne), unp_self]
  have s6 : Sb b6 = none := by rw [hSb, unp_self]
  have hGS : G.le Sb := by rw [hSb]; exact le_unp (le_unp (GH.le_trans g02 g3) h5) n6
  have hit := eachIt be w bs Sb (by rw [hSb, unp_ne nb6, unp_ne nb5]; exact e2) (by
    have := own_unp2 (own_unp2 e3 v5') (l := b6) (o := bx (.int .i64 0) 3) (by rw [unp_ne hne]; exact v6)
    rw [hSb]; exact this.sl)
  clear e1 e2 e3 g3 v5' v6 nb5 nb6
  have huS := Sl.le h hGS
  (repeat (first | (with_reducible refine i_ops ?_; first | (refine g_mv ?_; refine s_mv ?_) | refine o_nil ?_) | (with_reducible refine i_vc ?_; first | refine v_seq ?_ | refine v_ops ?_ | (refine g_cond ?_; first | refine s_cond_t ?_ | refine s_cond_f ?_) | refine v_block ?_ | refine v_skip ?_ | refine v_exit ?_ | refine v_ret ?_ | refine s_drawl ?_ | refine v_draw0 ?_) | (with_reducible first | refine n_then ?_ | refine r_then ?_ | refine e_then ?_ | refine n_block ?_ | refine r_block ?_ | refine e_block_eq (by with_unfolding_all rfl) ?_ | refine e_block_ne (by with_unfolding_all rfl) ?_ | (refine g_stand ?_; first | refine s_stand ?_ | refine s_standL ?_))))
  refine v_range (gf := 44) (lb := [pt be]) Sb (rowN bs) (ElemI bs) (fun k H => ∃ l xs B, Two 2 1 Sb (unp (unp H b5) b6) B l (.slice none 0 0) xs [] ∧ RowsO Sb B bs k xs ∧ H b5 = some (bx l 56) ∧ H b6 = some (bx (.int .i64 (pos bs k)) 3)) (fun _ _ => False) [(0, .slice ua un uc), (5, pt b5), (6, pt b6)] (by refine ⟨SL.get_fn (by with_unfolding_all rfl), SL.get_fn (by with_unfolding_all rfl), SL.get_fn (by with_unfolding_all rfl), trivial⟩) rfl (by with_unfolding_all rfl) (by with_unfolding_all rfl) hit
    (fun k H H' ⟨l, xs, B, h1, h2, h3, h4⟩ hle => by
      have hle2 : (unp (unp H b5) b6).le (unp (unp H' b5) b6) := le_unp (le_unp (GH.le_trans (unp_le _ _) (GH.le_trans (unp_le _ _) hle)) (by rw [unp_ne (Ne.symm hne), unp_self])) (unp_self _ _)
      obtain ⟨k1, k2⟩ := h1.le hle2
      exact ⟨l, xs, _, k1, h2.le k2, hle _ _ h3, hle _ _ h4⟩)
    (fun _ _ _ h _ => h)
    (fun k H ⟨l, xs, B, h1, h2, h3, h4⟩ => by
      have : B.le H := by rw [h1.1]; exact GH.le_trans (offb_le _ _) (GH.le_trans (offb_le _ _) (GH.le_trans (unp_le _ _) (unp_le _ _)))
      exact GH.le_trans h1.2.1 this)
    ⟨.slice none 0 0, [], _, by rw [← hSb]; exact Two.nil 2 1 Sb, RowsO.nil _ _ _, v5, v6'⟩ ?_ ?_ (fun _ h => h.elim) (fun _ _ h => h.elim)
  · rintro k x H0 H hk ⟨l, xs, B, i1, i2, i3, i4⟩ hle ⟨w2, rfl, hw2⟩
    refine ⟨rfl, fun s ll => ?_⟩
    obtain ⟨xa, xn, xc, rfl⟩ := hw2.sl.shape
    have hw4 : By H (.slice xa xn xc) (rowD bs k) := hw2.sl
    have hxn : xn = (rowD bs k).length := By.len hw4
    obtain ⟨la, ln, lc, rfl⟩ := i1.2.2.1.sl.shape
    dsimp only [SL.many, SL.sets]
    have r5 := box_r (hle _ _ i3)
    have hR := unp2_mono (a := b5) (b := b6) hle
    have hw3 : Own 1 (unp (unp H0 b5) b6) (unp (unp H b5) b6) (.slice xa xn xc) ((rowD bs k).map bv) := own_unp2 (own_unp2 hw2 i3) (by rw [unp_ne hne]; exact i4)
    obtain ⟨m2, mB⟩ := i1.le hR
    have hBR : B.le (unp (unp H0 b5) b6) := by rw [i1.1]; exact GH.le_trans (offb_le _ _) (offb_le _ _)
    have hwO := (i1.newO hR hw3).base (GH.le_trans i1.2.1 hBR)
    have hwn : ∀ c, blkS (.slice xa xn xc) = some c → B c = none := fun c hc => le_none hBR (hw3.at_ hc).choose_spec.2
    have i2' := i2.snoc mB hwO hwn
    have lenl : ln = k := by
      obtain ⟨_, h1, _⟩ := i2
      have := i1.2.2.1.sl.len
      simp only [lenS] at this; omega
    have hNl := rowN_le bs
    have hok := rowN_ok hk
    have hps := pos_succ hok
    have hle2 := ok_len hok
    have hdl := rowD_len hok
    have hsz0 : 0 ≤ sizeD ((rowD bs k).length : Int) := by unfold sizeD; split <;> omega
    have hsz1 : sizeD ((rowD bs k).length : Int) ≤ 5 := by have := lenB_le ((rowD bs k).length : Int); unfold sizeD; split <;> omega
    rw [← hxn] at hps hsz0 hsz1 hdl
    (repeat' (first | (with_reducible refine i_ops ?_; first | (refine g_mv ?_; refine s_mv ?_) | refine o_nil ?_ | (refine g_len ?_; first | refine s_lenB ?_ | refine s_pure ?_) | (refine g_slc ?_; ((first | refine s_slcB ?_ | refine s_slcB01 ?_ | refine s_slcB10 ?_); intro us hus hbs)) | (refine g_pure ?_; first | refine s_pure ?_ | refine s_saddB ?_) | (refine g_lfield ?_; refine s_lfield ?_) | (refine g_lload ?_; refine s_lload ?_) | (refine g_lstore ?_; first | refine s_lstoreA ?_ | refine s_lstore ?_) | (refine g_lalloc ?_; refine s_lalloc ?_) | (refine g_hload ?_; refine s_hloadP ?_) | (refine g_hstore ?_; (refine s_hstoreB ?_; intro G' hle ho hkp))) | (with_reducible refine i_vc ?_; first | refine v_seq ?_ | refine v_ops ?_ | (refine g_cond ?_; first | refine s_cond_t ?_ | refine s_cond_f ?_) | refine v_block ?_ | refine v_skip ?_ | refine v_exit ?_ | refine v_ret ?_ | refine s_drawl ?_ | refine v_draw0 ?_) | (with_reducible refine i_plan ?_; first | refine p_done ?_ | refine s_pre ?_ | refine s_preN ?_ | refine s_ag_t ?_ | refine s_ag_f ?_ | refine s_alt ?_ | refine p_alt ?_ ?_) | (with_reducible first | refine n_then ?_ | refine r_then ?_ | refine e_then ?_ | refine n_block ?_ | refine r_block ?_ | refine e_block_eq (by with_unfolding_all rfl) ?_ | refine e_block_ne (by with_unfolding_all rfl) ?_ | (refine g_stand ?_; first | refine s_stand ?_ | refine s_standL ?_)) | ((with_reducible first | refine s_cond_c ?_ ?_) <;> intro hb <;> rw [hb] <;> (try simp only [decide_eq_true_eq, decide_eq_false_iff_not, beq_iff_eq, bne_iff_ne, beq_eq_false_iff_ne, bne_eq_false_iff_eq, ne_eq, Int.not_lt, Int.not_le, gt_iff_lt, ge_iff_le, Bool.not_eq_true', Bool.not_eq_false'] at hb)) | ((with_reducible first | refine s_ret ?_ | refine s_normal ?_); try simp only [x_tup0, x_tup1, x_tup2, x_tup3, x_tup4, x_tup5, and_true, true_and])))
    refine o_bslice (cs := #[.int .i64 (rowK bs k), .slice xa xn xc]) (by with_unfolding_all rfl) rfl ?_
    intro b hb
    have o1 : Own 2 H (H.put b (.cells #[.int .i64 (rowK bs k), .slice xa xn xc] 37)) (.slice (some ⟨b, 0, none⟩) 1 1) [.int .i64 (rowK bs k), .slice xa xn xc] := .inr ⟨b, [], hb, OwnB.fresh rfl rfl (Nat.le_refl _) (by decide) (by simp)⟩
    have g2 : H.le (H.put b (.cells #[.int .i64 (rowK bs k), .slice xa xn xc] 37)) := GH.le_put _ hb
    generalize H.put b _ = H2 at o1 g2 ⊢
    obtain ⟨n2, nB⟩ := m2.le (unp2_mono (a := b5) (b := b6) g2)
    have h25 := g2 _ _ (hle _ _ i3)
    have h26 := g2 _ _ (hle _ _ i4)
    have hSH2 : Sb.le H2 := GH.le_trans n2.2.1 (GH.le_trans (GH.le_trans (offb_le _ _) (offb_le _ _)) (unp2_le _ _ _))
    refine o_appendO (by with_unfolding_all rfl) (by with_unfolding_all rfl) (n2.2.2.1.le (unp2_le _ _ _)) o1.sl rfl rfl hSH2 (by simp only [lenS]; omega) ?_
    intro l' H3 a1 a2 a3 a4 a5
    have l5 : blkS (.slice la ln lc) ≠ some b5 := fun e => by
      obtain ⟨o, ho, _⟩ := n2.2.2.1.at_ e
      exact (unp2_some ho).1 rfl
    have l6 : blkS (.slice la ln lc) ≠ some b6 := fun e => by
      obtain ⟨o, ho, _⟩ := n2.2.2.1.at_ e
      exact (unp2_some ho).2.1 rfl
    have h35 := a4 b5 l5 _ h25
    have h36 := a4 b6 l6 _ h26
    have k5 : blkS l' ≠ some b5 := fun e => by
      rcases a5 with e2 | ⟨b, e2, hn⟩
      · exact l5 (by rw [← e2]; exact e)
      · rw [e2] at e; cases e; rw [h25] at hn; cases hn
    have k6 : blkS l' ≠ some b6 := fun e => by
      rcases a5 with e2 | ⟨b, e2, hn⟩
      · exact l6 (by rw [← e2]; exact e)
      · rw [e2] at e; cases e; rw [h26] at hn; cases hn
    have a2' : Own 2 Sb (unp (unp H3 b5) b6) l' (xs ++ [.int .i64 (rowK bs k), .slice xa xn xc]) := a2.keep fun c hc o ho => by
      rw [unp_ne (fun e => by subst e; exact k6 hc), unp_ne (fun e => by subst e; exact k5 hc)]; exact ho
    obtain ⟨q2, qB⟩ := n2.fst (le_unp (le_unp a1 s5) s6) a2' (fun c hc o ho => by
      obtain ⟨d1, d2, d3⟩ := unp2_some ho
      rw [unp_ne d2, unp_ne d1]; exact a4 c hc o d3) (a5.imp id fun ⟨b, e, hn⟩ => ⟨b, e, le_none (unp2_le _ _ _) hn⟩)
    obtain ⟨ya, yn, yc, rfl⟩ := a2.sl.shape
    refine o_setv (.slice ya yn yc) (by with_unfolding_all rfl) h35 (by with_unfolding_all rfl) rfl rfl ?_
    intro H4 hk4 v54
    have e46 : H4 b6 = some (bx (.int .i64 (pos bs k)) 3) := by rw [hk4 b6 hne]; exact h36
    have hR4 : unp (unp H3 b5) b6 = unp (unp H4 b5) b6 := unp2_eq fun c n1 _ => (hk4 c n1).symm
    rw [hR4] at q2 qB
    have hno := noG_le H4
    (repeat' (first | (with_reducible refine i_ops ?_; first | (refine g_mv ?_; refine s_mv ?_) | refine o_nil ?_ | (refine g_len ?_; first | refine s_lenB ?_ | refine s_pure ?_) | (refine g_slc ?_; ((first | refine s_slcB ?_ | refine s_slcB01 ?_ | refine s_slcB10 ?_); intro us hus hbs)) | (refine g_pure ?_; first | refine s_pure ?_ | refine s_saddB ?_) | (refine g_lfield ?_; refine s_lfield ?_) | (refine g_lload ?_; refine s_lload ?_) | (refine g_lstore ?_; first | refine s_lstoreA ?_ | refine s_lstore ?_) | (refine g_lalloc ?_; refine s_lalloc ?_) | (refine g_hload ?_; refine s_hloadP ?_) | (refine g_hstore ?_; (refine s_hstoreB ?_; intro G' hle ho hkp))) | (with_reducible refine i_vc ?_; first | refine v_seq ?_ | refine v_ops ?_ | (refine g_cond ?_; first | refine s_cond_t ?_ | refine s_cond_f ?_) | refine v_block ?_ | refine v_skip ?_ | refine v_exit ?_ | refine v_ret ?_ | refine v_drawG noG (by first | assumption | exact GH.le_refl _ | ((repeat (first | exact GH.le_refl _ | assumption | refine GH.le_trans ?_ (by assumption))); first | done | fail)) ?_) | (with_reducible refine i_plan ?_; first | refine p_done ?_ | refine s_preN ?_ | refine p_preG (by with_unfolding_all rfl) ?_ | refine s_ag_t ?_ | refine s_ag_f ?_ | refine s_alt ?_ | refine p_alt ?_ ?_) | (with_reducible first | refine n_then ?_ | refine r_then ?_ | refine e_then ?_ | refine n_block ?_ | refine r_block ?_ | refine e_block_eq (by with_unfolding_all rfl) ?_ | refine e_block_ne (by with_unfolding_all rfl) ?_ | (refine g_stand ?_; first | refine s_stand ?_ | refine s_standL ?_)) | (with_reducible refine k_back ?_) | ((with_reducible first | refine s_cond_c ?_ ?_) <;> intro hb <;> rw [hb] <;> (try simp only [decide_eq_true_eq, decide_eq_false_iff_not, beq_iff_eq, bne_iff_ne, beq_eq_false_iff_ne, bne_eq_false_iff_eq, ne_eq, Int.not_lt, Int.not_le, gt_iff_lt, ge_iff_le, Bool.not_eq_true', Bool.not_eq_false'] at hb)) | ((with_reducible first | refine s_ret ?_ | refine s_normal ?_); try simp only [x_tup0, x_tup1, x_tup2, x_tup3, x_tup4, x_tup5, and_true, true_and])))
    refine o_callc (by with_unfolding_all rfl) (size12 _ H4) ?_
    rintro _ H5 ⟨rfl, g5⟩
    obtain ⟨t2, tB⟩ := q2.le (unp2_mono (a := b5) (b := b6) g5)
    have hno := noG_le H5
    (repeat' (first | (with_reducible refine i_ops ?_; first | (refine g_mv ?_; refine s_mv ?_) | refine o_nil ?_ | (refine g_len ?_; first | refine s_lenB ?_ | refine s_pure ?_) | (refine g_slc ?_; ((first | refine s_slcB ?_ | refine s_slcB01 ?_ | refine s_slcB10 ?_); intro us hus hbs)) | (refine g_pure ?_; first | refine s_pure ?_ | refine s_saddB ?_) | (refine g_lfield ?_; refine s_lfield ?_) | (refine g_lload ?_; refine s_lload ?_) | (refine g_lstore ?_; first | refine s_lstoreA ?_ | refine s_lstore ?_) | (refine g_lalloc ?_; refine s_lalloc ?_) | (refine g_hload ?_; refine s_hloadP ?_) | (refine g_hstore ?_; (refine s_hstoreB ?_; intro G' hle ho hkp))) | (with_reducible refine i_vc ?_; first | refine v_seq ?_ | refine v_ops ?_ | (refine g_cond ?_; first | refine s_cond_t ?_ | refine s_cond_f ?_) | refine v_block ?_ | refine v_skip ?_ | refine v_exit ?_ | refine v_ret ?_ | refine v_drawG noG (by first | assumption | exact GH.le_refl _ | ((repeat (first | exact GH.le_refl _ | assumption | refine GH.le_trans ?_ (by assumption))); first | done | fail)) ?_) | (with_reducible refine i_plan ?_; first | refine p_done ?_ | refine s_preN ?_ | refine p_preG (by with_unfolding_all rfl) ?_ | refine s_ag_t ?_ | refine s_ag_f ?_ | refine s_alt ?_ | refine p_alt ?_ ?_) | (with_reducible first | refine n_then ?_ | refine r_then ?_ | refine e_then ?_ | refine n_block ?_ | refine r_block ?_ | refine e_block_eq (by with_unfolding_all rfl) ?_ | refine e_block_ne (by with_unfolding_all rfl) ?_ | (refine g_stand ?_; first | refine s_stand ?_ | refine s_standL ?_)) | (with_reducible refine k_back ?_) | ((with_reducible first | refine s_cond_c ?_ ?_) <;> intro hb <;> rw [hb] <;> (try simp only [decide_eq_true_eq, decide_eq_false_iff_not, beq_iff_eq, bne_iff_ne, beq_eq_false_iff_ne, bne_eq_false_iff_eq, ne_eq, Int.not_lt, Int.not_le, gt_iff_lt, ge_iff_le, Bool.not_eq_true', Bool.not_eq_false'] at hb)) | ((with_reducible first | refine s_ret ?_ | refine s_normal ?_); try simp only [x_tup0, x_tup1, x_tup2, x_tup3, x_tup4, x_tup5, and_true, true_and])))
    refine o_setv (.int .i64 ((pos bs k : Int) + sizeD (xn : Int) + xn)) (by with_unfolding_all rfl) (g5 _ _ e46) (by with_unfolding_all rfl) rfl rfl ?_
    intro H6 hk6 v66
    have hR6 : unp (unp H5 b5) b6 = unp (unp H6 b5) b6 := unp2_eq fun c _ n2 => (hk6 c n2).symm
    rw [hR6] at t2 tB
    have hno := noG_le H6
    (repeat' (first | (with_reducible refine i_ops ?_; first | (refine g_mv ?_; refine s_mv ?_) | refine o_nil ?_ | (refine g_len ?_; first | refine s_lenB ?_ | refine s_pure ?_) | (refine g_slc ?_; ((first | refine s_slcB ?_ | refine s_slcB01 ?_ | refine s_slcB10 ?_); intro us hus hbs)) | (refine g_pure ?_; first | refine s_pure ?_ | refine s_saddB ?_) | (refine g_lfield ?_; refine s_lfield ?_) | (refine g_lload ?_; refine s_lload ?_) | (refine g_lstore ?_; first | refine s_lstoreA ?_ | refine s_lstore ?_) | (refine g_lalloc ?_; refine s_lalloc ?_) | (refine g_hload ?_; refine s_hloadP ?_) | (refine g_hstore ?_; (refine s_hstoreB ?_; intro G' hle ho hkp))) | (with_reducible refine i_vc ?_; first | refine v_seq ?_ | refine v_ops ?_ | (refine g_cond ?_; first | refine s_cond_t ?_ | refine s_cond_f ?_) | refine v_block ?_ | refine v_skip ?_ | refine v_exit ?_ | refine v_ret ?_ | refine v_drawG noG (by first | assumption | exact GH.le_refl _ | ((repeat (first | exact GH.le_refl _ | assumption | refine GH.le_trans ?_ (by assumption))); first | done | fail)) ?_) | (with_reducible refine i_plan ?_; first | refine p_done ?_ | refine s_preN ?_ | refine p_preG (by with_unfolding_all rfl) ?_ | refine s_ag_t ?_ | refine s_ag_f ?_ | refine s_alt ?_ | refine p_alt ?_ ?_) | (with_reducible first | refine n_then ?_ | refine r_then ?_ | refine e_then ?_ | refine n_block ?_ | refine r_block ?_ | refine e_block_eq (by with_unfolding_all rfl) ?_ | refine e_block_ne (by with_unfolding_all rfl) ?_ | (refine g_stand ?_; first | refine s_stand ?_ | refine s_standL ?_)) | (with_reducible refine k_back ?_) | ((with_reducible first | refine s_cond_c ?_ ?_) <;> intro hb <;> rw [hb] <;> (try simp only [decide_eq_true_eq, decide_eq_false_iff_not, beq_iff_eq, bne_iff_ne, beq_eq_false_iff_ne, bne_eq_false_iff_eq, ne_eq, Int.not_lt, Int.not_le, gt_iff_lt, ge_iff_le, Bool.not_eq_true', Bool.not_eq_false'] at hb)) | ((with_reducible first | refine s_ret ?_ | refine s_normal ?_); try simp only [x_tup0, x_tup1, x_tup2, x_tup3, x_tup4, x_tup5, and_true, true_and])))
    refine ⟨_, _, _, t2, i2'.le (GH.le_trans nB (GH.le_trans qB tB)), (hk6 b5 (Ne.symm hne)).trans (g5 _ _ v54), ?_⟩
    rw [hps]; exact v66
  · rintro H ⟨l, xs, B, i1, i2, i3, i4⟩
    have iB : B.le H := by rw [i1.1]; exact GH.le_trans (GH.le_trans (offb_le _ _) (offb_le _ _)) (unp2_le _ _ _)
    have hSH := GH.le_trans i1.2.1 iB
    have hGH := GH.le_trans hGS hSH
    have huH := Sl.le h hGH
    obtain ⟨la, ln, lc, rfl⟩ := i1.2.2.1.sl.shape
    have r5 := box_r i3
    have r6 := box_r i4
    have hpl := pos_le (bs := bs) (Nat.le_refl _)
    have e1 : rowE bs = pos bs (rowN bs) := rfl
    (repeat' (first | (with_reducible refine i_ops ?_; first | (refine g_mv ?_; refine s_mv ?_) | refine o_nil ?_ | (refine g_len ?_; first | refine s_lenB ?_ | refine s_pure ?_) | (refine g_slc ?_; ((first | refine s_slcB ?_ | refine s_slcB01 ?_ | refine s_slcB10 ?_); intro us hus hbs)) | (refine g_pure ?_; first | refine s_pure ?_ | refine s_saddB ?_) | (refine g_lfield ?_; refine s_lfield ?_) | (refine g_lload ?_; refine s_lload ?_) | (refine g_lstore ?_; first | refine s_lstoreA ?_ | refine s_lstore ?_) | (refine g_lalloc ?_; refine s_lalloc ?_) | (refine g_hload ?_; refine s_hloadP ?_) | (refine g_hstore ?_; (refine s_hstoreB ?_; intro G' hle ho hkp))) | (with_reducible refine i_vc ?_; first | refine v_seq ?_ | refine v_ops ?_ | (refine g_cond ?_; first | refine s_cond_t ?_ | refine s_cond_f ?_) | refine v_block ?_ | refine v_skip ?_ | refine v_exit ?_ | refine v_ret ?_ | refine s_drawl ?_ | refine v_draw0 ?_) | (with_reducible refine i_plan ?_; first | refine p_done ?_ | refine s_pre ?_ | refine s_preN ?_ | refine s_ag_t ?_ | refine s_ag_f ?_ | refine s_alt ?_ | refine p_alt ?_ ?_) | (with_reducible first | refine n_then ?_ | refine r_then ?_ | refine e_then ?_ | refine n_block ?_ | refine r_block ?_ | refine e_block_eq (by with_unfolding_all rfl) ?_ | refine e_block_ne (by with_unfolding_all rfl) ?_ | (refine g_stand ?_; first | refine s_stand ?_ | refine s_standL ?_)) | ((with_reducible first | refine s_cond_c ?_ ?_) <;> intro hb <;> rw [hb] <;> (try simp only [decide_eq_true_eq, decide_eq_false_iff_not, beq_iff_eq, bne_iff_ne, beq_eq_false_iff_ne, bne_eq_false_iff_eq, ne_eq, Int.not_lt, Int.not_le, gt_iff_lt, ge_iff_le, Bool.not_eq_true', Bool.not_eq_false'] at hb)) | ((with_reducible first | refine s_ret ?_ | refine s_normal ?_); try simp only [x_tup0, x_tup1, x_tup2, x_tup3, x_tup4, x_tup5, and_true, true_and])))
    · have e2 : rowB bs = 0 := by unfold rowB; rw [e1, if_pos (by omega)]
      refine ⟨hGH, _, by rw [e2, e1], .inl ⟨by omega, xs, B, iB, (i1.2.2.1.base hGS).le (unp2_le _ _ _), i2.base hGS, GH.le_trans hGS i1.2.1, fun c hc => by rw [i1.1]; exact offb_none hc⟩⟩
    · have e2 : rowB bs = tkE (bs.drop (pos bs (rowN bs))) := by unfold rowB; rw [e1, if_neg (by omega)]
      have hlt : rowE bs < bs.length := by omega
      rw [Int.toNat_natCast] at hus
      refine o_callc (by with_unfolding_all rfl) (take20 us _ H hus) ?_
      rintro v H1 ⟨hle, hT⟩
      have r61 := box_r (hle _ _ i4)
      rcases hT with ⟨he, rfl⟩ | ⟨he, w2, hw2, rfl⟩
      · (repeat' (first | (with_reducible refine i_ops ?_; first | (refine g_mv ?_; refine s_mv ?_) | refine o_nil ?_ | (refine g_len ?_; first | refine s_lenB ?_ | refine s_pure ?_) | (refine g_slc ?_; ((first | refine s_slcB ?_ | refine s_slcB01 ?_ | refine s_slcB10 ?_); intro us hus hbs)) | (refine g_pure ?_; first | refine s_pure ?_ | refine s_saddB ?_) | (refine g_lfield ?_; refine s_lfield ?_) | (refine g_lload ?_; refine s_lload ?_) | (refine g_lstore ?_; first | refine s_lstoreA ?_ | refine s_lstore ?_) | (refine g_lalloc ?_; refine s_lalloc ?_) | (refine g_hload ?_; refine s_hloadP ?_) | (refine g_hstore ?_; (refine s_hstoreB ?_; intro G' hle ho hkp))) | (with_reducible refine i_vc ?_; first | refine v_seq ?_ | refine v_ops ?_ | (refine g_cond ?_; first | refine s_cond_t ?_ | refine s_cond_f ?_) | refine v_block ?_ | refine v_skip ?_ | refine v_exit ?_ | refine v_ret ?_ | refine s_drawl ?_ | refine v_draw0 ?_) | (with_reducible refine i_plan ?_; first | refine p_done ?_ | refine s_pre ?_ | refine s_preN ?_ | refine s_ag_t ?_ | refine s_ag_f ?_ | refine s_alt ?_ | refine p_alt ?_ ?_) | (with_reducible first | refine n_then ?_ | refine r_then ?_ | refine e_then ?_ | refine n_block ?_ | refine r_block ?_ | refine e_block_eq (by with_unfolding_all rfl) ?_ | refine e_block_ne (by with_unfolding_all rfl) ?_ | (refine g_stand ?_; first | refine s_stand ?_ | refine s_standL ?_)) | ((with_reducible first | refine s_cond_c ?_ ?_) <;> intro hb <;> rw [hb] <;> (try simp only [decide_eq_true_eq, decide_eq_false_iff_not, beq_iff_eq, bne_iff_ne, beq_eq_false_iff_ne, bne_eq_false_iff_eq, ne_eq, Int.not_lt, Int.not_le, gt_iff_lt, ge_iff_le, Bool.not_eq_true', Bool.not_eq_false'] at hb)) | ((with_reducible first | refine s_ret ?_ | refine s_normal ?_); try simp only [x_tup0, x_tup1, x_tup2, x_tup3, x_tup4, x_tup5, and_true, true_and])))
        exact ⟨GH.le_trans hGH hle, _, by rw [e2, e1], .inr ⟨hlt, rfl⟩⟩
      · exact absurd he (rowB_lt hlt)
end Go.Proofs.Ytkidjjnmdpbcaaa.V
