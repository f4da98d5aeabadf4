/- slices.Clone; lent bytes, and whether they are as they were. -/
import Derived.Test.YtkidjjnmdpbcaaaPbCC
set_option linter.unusedSimpArgs false
set_option linter.unusedVariables false
namespace Go.Proofs.Ytkidjjnmdpbcaaa.V
open Go.RowKit Go.ChangeShapes Go.WideShapes
theorem clone (u : Value) (bs : List UInt8) (G : GH) (h : By G u bs) (hs : bs.length ≤ 211106232532992) : HC Try.prog 41 #[u] G fun v G' => G.le G' ∧ Own 1 G G' v (bs.map bv) := by
  obtain ⟨a, cap, e1, e2, e3, e4, e5⟩ := Sl.slice h
  refine HC.start comp41 rfl ?_; unfold pc41
  (repeat' (first | (with_reducible refine i_ops ?_; first | (refine g_mv ?_; refine s_mv ?_) | refine o_nil ?_ | (refine g_len ?_; first | refine s_lenB ?_ | refine s_pure ?_) | (refine g_slc ?_; ((first | refine s_slcB ?_ | refine s_slcB01 ?_ | refine s_slcB10 ?_); intro us hus hbs)) | (refine g_pure ?_; first | refine s_pure ?_ | refine s_saddB ?_) | (refine g_b2s ?_; refine s_b2sB ?_)) | (with_reducible refine i_vc ?_; first | refine v_seq ?_ | refine v_ops ?_ | (refine g_cond ?_; first | refine s_cond_t ?_ | refine s_cond_f ?_) | refine v_skip ?_ | refine v_ret ?_ | refine s_drawl ?_ | refine v_draw0 ?_) | (with_reducible refine i_plan ?_; first | refine p_done ?_ | refine s_pre ?_ | refine s_preN ?_ | refine s_ag_t ?_ | refine s_ag_f ?_) | (with_reducible first | refine n_then ?_ | refine r_then ?_ | refine e_then ?_) | ((with_reducible first | refine s_cond_c ?_ ?_) <;> intro hb <;> rw [hb] <;> (try simp only [decide_eq_true_eq, decide_eq_false_iff_not, beq_iff_eq, bne_iff_ne, beq_eq_false_iff_ne, bne_eq_false_iff_eq, ne_eq, Int.not_lt, Int.not_le, gt_iff_lt, ge_iff_le, Bool.not_eq_true', Bool.not_eq_false'] at hb)) | ((with_reducible first | refine s_ret ?_ | refine s_normal ?_); try simp only [x_tup0, x_tup1, x_tup2, x_tup3, x_tup4, x_tup5, and_true, true_and])))
  cases a with
  | none =>
    have h0 : lenS u = 0 := by
      by_cases hh : lenS u = 0
      · exact hh
      · obtain ⟨b, q, hq⟩ := e5 hh; cases hq
    have hb : bs = [] := List.eq_nil_of_length_eq_zero (by rw [← By.len h]; exact h0)
    subst hb
    refine o_pure (v := .bool true) (by with_unfolding_all rfl) (by rw [e1]; rfl) ?_
    (repeat' (first | (with_reducible refine i_ops ?_; first | (refine g_mv ?_; refine s_mv ?_) | refine o_nil ?_ | (refine g_len ?_; first | refine s_lenB ?_ | refine s_pure ?_) | (refine g_slc ?_; ((first | refine s_slcB ?_ | refine s_slcB01 ?_ | refine s_slcB10 ?_); intro us hus hbs)) | (refine g_pure ?_; first | refine s_pure ?_ | refine s_saddB ?_) | (refine g_b2s ?_; refine s_b2sB ?_)) | (with_reducible refine i_vc ?_; first | refine v_seq ?_ | refine v_ops ?_ | (refine g_cond ?_; first | refine s_cond_t ?_ | refine s_cond_f ?_) | refine v_skip ?_ | refine v_ret ?_ | refine s_drawl ?_ | refine v_draw0 ?_) | (with_reducible refine i_plan ?_; first | refine p_done ?_ | refine s_pre ?_ | refine s_preN ?_ | refine s_ag_t ?_ | refine s_ag_f ?_) | (with_reducible first | refine n_then ?_ | refine r_then ?_ | refine e_then ?_) | ((with_reducible first | refine s_cond_c ?_ ?_) <;> intro hb <;> rw [hb] <;> (try simp only [decide_eq_true_eq, decide_eq_false_iff_not, beq_iff_eq, bne_iff_ne, beq_eq_false_iff_ne, bne_eq_false_iff_eq, ne_eq, Int.not_lt, Int.not_le, gt_iff_lt, ge_iff_le, Bool.not_eq_true', Bool.not_eq_false'] at hb)) | ((with_reducible first | refine s_ret ?_ | refine s_normal ?_); try simp only [x_tup0, x_tup1, x_tup2, x_tup3, x_tup4, x_tup5, and_true, true_and])))
    exact ⟨GH.le_refl _, .inl ⟨rfl, rfl⟩⟩
  | some ad =>
    refine o_pure (v := .bool false) (by with_unfolding_all rfl) (by rw [e1]; rfl) ?_
    (repeat' (first | (with_reducible refine i_ops ?_; first | (refine g_mv ?_; refine s_mv ?_) | refine o_nil ?_ | (refine g_len ?_; first | refine s_lenB ?_ | refine s_pure ?_) | (refine g_slc ?_; ((first | refine s_slcB ?_ | refine s_slcB01 ?_ | refine s_slcB10 ?_); intro us hus hbs)) | (refine g_pure ?_; first | refine s_pure ?_ | refine s_saddB ?_) | (refine g_b2s ?_; refine s_b2sB ?_)) | (with_reducible refine i_vc ?_; first | refine v_seq ?_ | refine v_ops ?_ | (refine g_cond ?_; first | refine s_cond_t ?_ | refine s_cond_f ?_) | refine v_skip ?_ | refine v_ret ?_ | refine s_drawl ?_ | refine v_draw0 ?_) | (with_reducible refine i_plan ?_; first | refine p_done ?_ | refine s_pre ?_ | refine s_preN ?_ | refine s_ag_t ?_ | refine s_ag_f ?_) | (with_reducible first | refine n_then ?_ | refine r_then ?_ | refine e_then ?_) | ((with_reducible first | refine s_cond_c ?_ ?_) <;> intro hb <;> rw [hb] <;> (try simp only [decide_eq_true_eq, decide_eq_false_iff_not, beq_iff_eq, bne_iff_ne, beq_eq_false_iff_ne, bne_eq_false_iff_eq, ne_eq, Int.not_lt, Int.not_le, gt_iff_lt, ge_iff_le, Bool.not_eq_true', Bool.not_eq_false'] at hb)) | ((with_reducible first | refine s_ret ?_ | refine s_normal ?_); try simp only [x_tup0, x_tup1, x_tup2, x_tup3, x_tup4, x_tup5, and_true, true_and])))
    refine o_bsliceB [] (by with_unfolding_all rfl) rfl rfl rfl rfl rfl ?_
    intro w G1 hle ho hw
    (repeat' (first | (with_reducible refine i_ops ?_; first | (refine g_mv ?_; refine s_mv ?_) | refine o_nil ?_ | (refine g_len ?_; first | refine s_lenB ?_ | refine s_pure ?_) | (refine g_slc ?_; ((first | refine s_slcB ?_ | refine s_slcB01 ?_ | refine s_slcB10 ?_); intro us hus hbs)) | (refine g_pure ?_; first | refine s_pure ?_ | refine s_saddB ?_) | (refine g_b2s ?_; refine s_b2sB ?_)) | (with_reducible refine i_vc ?_; first | refine v_seq ?_ | refine v_ops ?_ | (refine g_cond ?_; first | refine s_cond_t ?_ | refine s_cond_f ?_) | refine v_skip ?_ | refine v_ret ?_ | refine s_drawl ?_ | refine v_draw0 ?_) | (with_reducible refine i_plan ?_; first | refine p_done ?_ | refine s_pre ?_ | refine s_preN ?_ | refine s_ag_t ?_ | refine s_ag_f ?_) | (with_reducible first | refine n_then ?_ | refine r_then ?_ | refine e_then ?_) | ((with_reducible first | refine s_cond_c ?_ ?_) <;> intro hb <;> rw [hb] <;> (try simp only [decide_eq_true_eq, decide_eq_false_iff_not, beq_iff_eq, bne_iff_ne, beq_eq_false_iff_ne, bne_eq_false_iff_eq, ne_eq, Int.not_lt, Int.not_le, gt_iff_lt, ge_iff_le, Bool.not_eq_true', Bool.not_eq_false'] at hb)) | ((with_reducible first | refine s_ret ?_ | refine s_normal ?_); try simp only [x_tup0, x_tup1, x_tup2, x_tup3, x_tup4, x_tup5, and_true, true_and])))
    refine o_appendO (by with_unfolding_all rfl) (by with_unfolding_all rfl) ho (Sl.le h hle) (cells1_bytes _) rfl hle (by rw [hw, By.len h]; omega) ?_
    intro v G2 q1 q2 q3 q4 q5
    (repeat' (first | (with_reducible refine i_ops ?_; first | (refine g_mv ?_; refine s_mv ?_) | refine o_nil ?_ | (refine g_len ?_; first | refine s_lenB ?_ | refine s_pure ?_) | (refine g_slc ?_; ((first | refine s_slcB ?_ | refine s_slcB01 ?_ | refine s_slcB10 ?_); intro us hus hbs)) | (refine g_pure ?_; first | refine s_pure ?_ | refine s_saddB ?_) | (refine g_b2s ?_; refine s_b2sB ?_)) | (with_reducible refine i_vc ?_; first | refine v_seq ?_ | refine v_ops ?_ | (refine g_cond ?_; first | refine s_cond_t ?_ | refine s_cond_f ?_) | refine v_skip ?_ | refine v_ret ?_ | refine s_drawl ?_ | refine v_draw0 ?_) | (with_reducible refine i_plan ?_; first | refine p_done ?_ | refine s_pre ?_ | refine s_preN ?_ | refine s_ag_t ?_ | refine s_ag_f ?_) | (with_reducible first | refine n_then ?_ | refine r_then ?_ | refine e_then ?_) | ((with_reducible first | refine s_cond_c ?_ ?_) <;> intro hb <;> rw [hb] <;> (try simp only [decide_eq_true_eq, decide_eq_false_iff_not, beq_iff_eq, bne_iff_ne, beq_eq_false_iff_ne, bne_eq_false_iff_eq, ne_eq, Int.not_lt, Int.not_le, gt_iff_lt, ge_iff_le, Bool.not_eq_true', Bool.not_eq_false'] at hb)) | ((with_reducible first | refine s_ret ?_ | refine s_normal ?_); try simp only [x_tup0, x_tup1, x_tup2, x_tup3, x_tup4, x_tup5, and_true, true_and])))
    exact ⟨q1, by simpa using q2⟩
/-- A part of a block's row, as far as there is room. -/
theorem OwnB.slc {n b : Nat} {G : GH} {u : Value} {xs sp : List Value} (h : OwnB n G b u xs sp) {k : IntKind} {j : Int} (h0 : 0 ≤ j) (h1 : (j.toNat + 0) * n ≤ (xs ++ sp).length) (hn : n ≠ 0) : ∃ u', pureV (.slc n false true false) [u, .int k j] = some u' ∧ OwnB n G b u' ((xs ++ sp).take (j.toNat * n)) ((xs ++ sp).drop (j.toNat * n)) ∧ lenS u' = j.toNat := by
  obtain ⟨q, len, cap, cs, e, fr, rfl, hG, k1, k2, k3, k4, k5, k6⟩ := h
  have h : OwnB n G b (.slice (some ⟨b, q, none⟩) len cap) xs sp := ⟨q, len, cap, cs, e, fr, rfl, hG, k1, k2, k3, k4, k5, k6⟩
  have hl : (xs ++ sp).length = cap * n := by rw [← k5]; exact extract_len k3
  have hj : j.toNat ≤ cap := by
    rw [hl, Nat.add_zero] at h1
    exact Nat.le_of_mul_le_mul_right h1 (by omega)
  obtain ⟨a, e1, e2⟩ := h.cut (j := j.toNat) hj
  cases e1
  refine ⟨.slice (some ⟨b, q, none⟩) j.toNat cap, ?_, e2, rfl⟩
  simp only [pureV, bnds, Option.bind_some, cutV, Option.getD_some, Option.getD_none]
  rw [if_pos ⟨Int.le_refl _, h0, by omega⟩]
  simp only [Option.map_some, Int.toNat_zero, Nat.sub_zero, addO, Nat.zero_mul]
  split
  · rfl
  · simp [Addr.add]
/-- Bytes with a mark in the room behind them. -/
def Lent (G0 G : GH) (u : Value) (bs : List UInt8) : Prop := ∃ b sp, G0 b = none ∧ OwnB 1 G b u (bs.map bv) (bv 90 :: sp)
theorem Lent.le {G0 G G' : GH} {u : Value} {bs : List UInt8} (h : Lent G0 G u bs) (hl : G.le G') : Lent G0 G' u bs :=
  let ⟨b, sp, h0, h⟩ := h; ⟨b, sp, h0, h.le fun o => hl b o⟩
theorem Lent.sl {G0 G : GH} {u : Value} {bs : List UInt8} (h : Lent G0 G u bs) : By G u bs := let ⟨_, _, _, h⟩ := h; h.sl
theorem Lent.base {G0 G1 G : GH} {u : Value} {bs : List UInt8} (h : Lent G1 G u bs) (hl : G0.le G1) : Lent G0 G u bs := by
  obtain ⟨b, sp, h0, h⟩ := h
  refine ⟨b, sp, ?_, h⟩
  cases e : G0 b with
  | none => rfl
  | some o => rw [hl b o e] at h0; cases h0
theorem Lent.shape {G0 G : GH} {u : Value} {bs : List UInt8} (h : Lent G0 G u bs) : ∃ a len cap, u = .slice a len cap := h.sl.shape
theorem Lent.keep {G0 G G' : GH} {u : Value} {bs : List UInt8} (h : Lent G0 G u bs) (hk : ∀ b, blkS u = some b → ∀ o, G b = some o → G' b = some o) : Lent G0 G' u bs :=
  let ⟨b, sp, h0, h⟩ := h; ⟨b, sp, h0, h.le (hk b h.blk)⟩
end Go.Proofs.Ytkidjjnmdpbcaaa.V
