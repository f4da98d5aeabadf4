/- Pieces: joined, lent, kept. -/
import Derived.Test.YtbpjjhbkahinjaaPkSO
set_option linter.unusedSimpArgs false
set_option linter.unusedVariables false
namespace Go.Proofs.Ytbpjjhbkahinjaa.V
open Go.RowKit Go.ChangeShapes Go.WideShapes
theorem joinedP (u : Value) (us : List Value) (ps : List (List UInt8)) (G : GH) (h : Parts G u us ps) (hs : ps.flatten.length ≤ 211106232532992) : HC Try.prog 20 #[u] G fun v G' => G.le G' ∧ Own 1 G G' v (ps.flatten.map bv) := by
  obtain ⟨hu, hn, hw⟩ := h
  have hlen : lenS u = ps.length := by have := hu.len; omega
  have hl1 := hu.len_le
  refine HC.start comp20 rfl ?_; unfold pc20
  (repeat' (first | (with_reducible refine i_ops ?_; first | (refine g_mv ?_; refine s_mv ?_) | refine o_nil ?_ | (refine g_len ?_; first | refine s_lenB ?_ | refine s_pure ?_) | (refine g_idx ?_; first | (refine s_idxOB ?_; intro p hp hpw) | (refine s_idxB ?_; intro p hp)) | (refine g_slc ?_; ((first | refine s_slcB ?_ | refine s_slcB01 ?_ | refine s_slcB10 ?_); intro us hus hbs)) | (refine g_pure ?_; first | refine s_pure ?_ | refine s_saddB ?_) | (refine g_hload ?_; refine s_hloadP ?_) | (refine g_b2s ?_; refine s_b2sB ?_)) | (with_reducible refine i_vc ?_; first | refine v_seq ?_ | refine v_ops ?_ | (refine g_cond ?_; first | refine s_cond_t ?_ | refine s_cond_f ?_) | refine v_block ?_ | refine v_skip ?_ | refine v_exit ?_ | refine v_ret ?_ | refine s_drawl ?_ | refine v_draw0 ?_) | (with_reducible refine i_plan ?_; first | refine p_done ?_ | refine s_pre ?_ | refine s_preN ?_ | refine s_ag_t ?_ | refine s_ag_f ?_ | refine s_alt ?_ | refine p_alt ?_ ?_) | (with_reducible first | refine n_then ?_ | refine r_then ?_ | refine e_then ?_ | refine n_block ?_ | refine r_block ?_ | refine e_block_eq (by with_unfolding_all rfl) ?_ | refine e_block_ne (by with_unfolding_all rfl) ?_ | (refine g_stand ?_; first | refine s_stand ?_ | refine s_standL ?_)) | ((with_reducible first | refine s_cond_c ?_ ?_) <;> intro hb <;> rw [hb] <;> (try simp only [decide_eq_true_eq, decide_eq_false_iff_not, beq_iff_eq, bne_iff_ne, beq_eq_false_iff_ne, bne_eq_false_iff_eq, ne_eq, Int.not_lt, Int.not_le, gt_iff_lt, ge_iff_le, Bool.not_eq_true', Bool.not_eq_false'] at hb)) | ((with_reducible first | refine s_ret ?_ | refine s_normal ?_); try simp only [x_tup0, x_tup1, x_tup2, x_tup3, x_tup4, x_tup5, and_true, true_and])))
  refine v_loopX (α := Nat × Value × GH) (fun x => x.1 ≤ ps.length ∧ G.le x.2.2 ∧ Own 1 G x.2.2 x.2.1 ((ps.take x.1).flatten.map bv)) (fun x => [(0, u), (3, x.2.1), (4, .int .i64 x.1)]) (fun _ => []) (fun x => x.2.2) (fun x => ps.length - x.1) (0, .slice none 0 0, G)
    ⟨Nat.zero_le _, GH.le_refl _, .inl ⟨rfl, rfl⟩⟩ (by refine ⟨SL.get_fn (by with_unfolding_all rfl), SL.get_fn (by with_unfolding_all rfl), SL.get_fn (by with_unfolding_all rfl), trivial⟩) trivial rfl ?_
  rintro ⟨i, v, G1⟩ s l ⟨k1, k2, k3⟩
  dsimp only at k1 k2 k3
  dsimp only [SL.sets, AL.sets]
  (repeat' (first | (with_reducible refine i_ops ?_; first | (refine g_mv ?_; refine s_mv ?_) | refine o_nil ?_ | (refine g_len ?_; first | refine s_lenB ?_ | refine s_pure ?_) | (refine g_idx ?_; first | (refine s_idxOB ?_; intro p hp hpw) | (refine s_idxB ?_; intro p hp)) | (refine g_slc ?_; ((first | refine s_slcB ?_ | refine s_slcB01 ?_ | refine s_slcB10 ?_); intro us hus hbs)) | (refine g_pure ?_; first | refine s_pure ?_ | refine s_saddB ?_) | (refine g_hload ?_; refine s_hloadP ?_) | (refine g_b2s ?_; refine s_b2sB ?_)) | (with_reducible refine i_vc ?_; first | refine v_seq ?_ | refine v_ops ?_ | (refine g_cond ?_; first | refine s_cond_t ?_ | refine s_cond_f ?_) | refine v_block ?_ | refine v_skip ?_ | refine v_exit ?_ | refine v_ret ?_ | refine s_drawl ?_ | refine v_draw0 ?_) | (with_reducible refine i_plan ?_; first | refine p_done ?_ | refine s_pre ?_ | refine s_preN ?_ | refine s_ag_t ?_ | refine s_ag_f ?_ | refine s_alt ?_ | refine p_alt ?_ ?_) | (with_reducible first | refine n_then ?_ | refine r_then ?_ | refine e_then ?_ | refine n_block ?_ | refine r_block ?_ | refine e_block_eq (by with_unfolding_all rfl) ?_ | refine e_block_ne (by with_unfolding_all rfl) ?_ | (refine g_stand ?_; first | refine s_stand ?_ | refine s_standL ?_)) | ((with_reducible first | refine s_cond_c ?_ ?_) <;> intro hb <;> rw [hb] <;> (try simp only [decide_eq_true_eq, decide_eq_false_iff_not, beq_iff_eq, bne_iff_ne, beq_eq_false_iff_ne, bne_eq_false_iff_eq, ne_eq, Int.not_lt, Int.not_le, gt_iff_lt, ge_iff_le, Bool.not_eq_true', Bool.not_eq_false'] at hb)) | ((with_reducible first | refine s_ret ?_ | refine s_normal ?_); try simp only [x_tup0, x_tup1, x_tup2, x_tup3, x_tup4, x_tup5, and_true, true_and])))
  refine o_lenS (by with_unfolding_all rfl) (hu.le k2) ?_
  rw [hlen]
  (repeat' (first | (with_reducible refine i_ops ?_; first | (refine g_mv ?_; refine s_mv ?_) | refine o_nil ?_ | (refine g_len ?_; first | refine s_lenB ?_ | refine s_pure ?_) | (refine g_idx ?_; first | (refine s_idxOB ?_; intro p hp hpw) | (refine s_idxB ?_; intro p hp)) | (refine g_slc ?_; ((first | refine s_slcB ?_ | refine s_slcB01 ?_ | refine s_slcB10 ?_); intro us hus hbs)) | (refine g_pure ?_; first | refine s_pure ?_ | refine s_saddB ?_) | (refine g_hload ?_; refine s_hloadP ?_) | (refine g_b2s ?_; refine s_b2sB ?_)) | (with_reducible refine i_vc ?_; first | refine v_seq ?_ | refine v_ops ?_ | (refine g_cond ?_; first | refine s_cond_t ?_ | refine s_cond_f ?_) | refine v_block ?_ | refine v_skip ?_ | refine v_exit ?_ | refine v_ret ?_ | refine s_drawl ?_ | refine v_draw0 ?_) | (with_reducible refine i_plan ?_; first | refine p_done ?_ | refine s_pre ?_ | refine s_preN ?_ | refine s_ag_t ?_ | refine s_ag_f ?_ | refine s_alt ?_ | refine p_alt ?_ ?_) | (with_reducible first | refine n_then ?_ | refine r_then ?_ | refine e_then ?_ | refine n_block ?_ | refine r_block ?_ | refine e_block_eq (by with_unfolding_all rfl) ?_ | refine e_block_ne (by with_unfolding_all rfl) ?_ | (refine g_stand ?_; first | refine s_stand ?_ | refine s_standL ?_)) | ((with_reducible first | refine s_cond_c ?_ ?_) <;> intro hb <;> rw [hb] <;> (try simp only [decide_eq_true_eq, decide_eq_false_iff_not, beq_iff_eq, bne_iff_ne, beq_eq_false_iff_ne, bne_eq_false_iff_eq, ne_eq, Int.not_lt, Int.not_le, gt_iff_lt, ge_iff_le, Bool.not_eq_true', Bool.not_eq_false'] at hb)) | ((with_reducible first | refine s_ret ?_ | refine s_normal ?_); try simp only [x_tup0, x_tup1, x_tup2, x_tup3, x_tup4, x_tup5, and_true, true_and])))
  · have hi : i < ps.length := by omega
    obtain ⟨w, ew, hw1⟩ := hw i hi
    have b2 := flat_len ps (i + 1)
    rw [flat_take hi, List.length_append] at b2
    refine o_idxS (by with_unfolding_all rfl) (hu.le k2) (by with_unfolding_all rfl) (by omega) (v := w) (by simpa using ew) ?_
    intro p hp
    (repeat' (first | (with_reducible refine i_ops ?_; first | (refine g_mv ?_; refine s_mv ?_) | refine o_nil ?_ | (refine g_len ?_; first | refine s_lenB ?_ | refine s_pure ?_) | (refine g_idx ?_; first | (refine s_idxOB ?_; intro p hp hpw) | (refine s_idxB ?_; intro p hp)) | (refine g_slc ?_; ((first | refine s_slcB ?_ | refine s_slcB01 ?_ | refine s_slcB10 ?_); intro us hus hbs)) | (refine g_pure ?_; first | refine s_pure ?_ | refine s_saddB ?_) | (refine g_hload ?_; refine s_hloadP ?_) | (refine g_b2s ?_; refine s_b2sB ?_)) | (with_reducible refine i_vc ?_; first | refine v_seq ?_ | refine v_ops ?_ | (refine g_cond ?_; first | refine s_cond_t ?_ | refine s_cond_f ?_) | refine v_block ?_ | refine v_skip ?_ | refine v_exit ?_ | refine v_ret ?_ | refine s_drawl ?_ | refine v_draw0 ?_) | (with_reducible refine i_plan ?_; first | refine p_done ?_ | refine s_pre ?_ | refine s_preN ?_ | refine s_ag_t ?_ | refine s_ag_f ?_ | refine s_alt ?_ | refine p_alt ?_ ?_) | (with_reducible first | refine n_then ?_ | refine r_then ?_ | refine e_then ?_ | refine n_block ?_ | refine r_block ?_ | refine e_block_eq (by with_unfolding_all rfl) ?_ | refine e_block_ne (by with_unfolding_all rfl) ?_ | (refine g_stand ?_; first | refine s_stand ?_ | refine s_standL ?_)) | ((with_reducible first | refine s_cond_c ?_ ?_) <;> intro hb <;> rw [hb] <;> (try simp only [decide_eq_true_eq, decide_eq_false_iff_not, beq_iff_eq, bne_iff_ne, beq_eq_false_iff_ne, bne_eq_false_iff_eq, ne_eq, Int.not_lt, Int.not_le, gt_iff_lt, ge_iff_le, Bool.not_eq_true', Bool.not_eq_false'] at hb)) | ((with_reducible first | refine s_ret ?_ | refine s_normal ?_); try simp only [x_tup0, x_tup1, x_tup2, x_tup3, x_tup4, x_tup5, and_true, true_and])))
    have hvl : By G1 v ((ps.take i).flatten) := k3.sl
    have hwl : By G1 w ps[i] := Sl.le hw1 k2
    refine o_appendO (by with_unfolding_all rfl) (by with_unfolding_all rfl) k3 hwl (cells1_bytes _) rfl k2 (by rw [By.len hvl, By.len hwl]; omega) ?_
    intro v2 G3 q1 q2 q3 q4 q5
    (repeat' (first | (with_reducible refine i_ops ?_; first | (refine g_mv ?_; refine s_mv ?_) | refine o_nil ?_ | (refine g_len ?_; first | refine s_lenB ?_ | refine s_pure ?_) | (refine g_idx ?_; first | (refine s_idxOB ?_; intro p hp hpw) | (refine s_idxB ?_; intro p hp)) | (refine g_slc ?_; ((first | refine s_slcB ?_ | refine s_slcB01 ?_ | refine s_slcB10 ?_); intro us hus hbs)) | (refine g_pure ?_; first | refine s_pure ?_ | refine s_saddB ?_) | (refine g_hload ?_; refine s_hloadP ?_) | (refine g_b2s ?_; refine s_b2sB ?_)) | (with_reducible refine i_vc ?_; first | refine v_seq ?_ | refine v_ops ?_ | (refine g_cond ?_; first | refine s_cond_t ?_ | refine s_cond_f ?_) | refine v_block ?_ | refine v_skip ?_ | refine v_exit ?_ | refine v_ret ?_ | refine s_drawl ?_ | refine v_draw0 ?_) | (with_reducible refine i_plan ?_; first | refine p_done ?_ | refine s_pre ?_ | refine s_preN ?_ | refine s_ag_t ?_ | refine s_ag_f ?_ | refine s_alt ?_ | refine p_alt ?_ ?_) | (with_reducible first | refine n_then ?_ | refine r_then ?_ | refine e_then ?_ | refine n_block ?_ | refine r_block ?_ | refine e_block_eq (by with_unfolding_all rfl) ?_ | refine e_block_ne (by with_unfolding_all rfl) ?_ | (refine g_stand ?_; first | refine s_stand ?_ | refine s_standL ?_)) | ((with_reducible first | refine s_cond_c ?_ ?_) <;> intro hb <;> rw [hb] <;> (try simp only [decide_eq_true_eq, decide_eq_false_iff_not, beq_iff_eq, bne_iff_ne, beq_eq_false_iff_ne, bne_eq_false_iff_eq, ne_eq, Int.not_lt, Int.not_le, gt_iff_lt, ge_iff_le, Bool.not_eq_true', Bool.not_eq_false'] at hb)) | ((with_reducible first | refine s_ret ?_ | refine s_normal ?_); try simp only [x_tup0, x_tup1, x_tup2, x_tup3, x_tup4, x_tup5, and_true, true_and])))
    refine ⟨ps.length - (i + 1), by omega, (i + 1, v2, G3), rfl, ⟨hi, q1, ?_⟩, (by refine ⟨SL.get_fn (by with_unfolding_all rfl), SL.get_fn (by with_unfolding_all rfl), SL.get_fn (by with_unfolding_all rfl), trivial⟩), trivial, rfl⟩
    rw [flat_take hi, List.map_append]; exact q2
  · have hi : i = ps.length := by omega
    subst hi
    rw [List.take_length] at k3
    exact ⟨k2, k3⟩
theorem OwnB.slc {n b : Nat} {G : GH} {u : Value} {xs sp : List Value} (h : OwnB n G b u xs sp) {k : IntKind} {j : Int} (h0 : 0 ≤ j) (h1 : (j.toNat + 0) * n ≤ (xs ++ sp).length) (hn : n ≠ 0) : ∃ u', pureV (.slc n false true false) [u, .int k j] = some u' ∧ OwnB n G b u' ((xs ++ sp).take (j.toNat * n)) ((xs ++ sp).drop (j.toNat * n)) ∧ lenS u' = j.toNat := by
  obtain ⟨q, len, cap, cs, e, fr, rfl, hG, k1, k2, k3, k4, k5, k6⟩ := h
  have h : OwnB n G b (.slice (some ⟨b, q, none⟩) len cap) xs sp := ⟨q, len, cap, cs, e, fr, rfl, hG, k1, k2, k3, k4, k5, k6⟩
  have hl : (xs ++ sp).length = cap * n := by rw [← k5]; exact extract_len k3
  have hj : j.toNat ≤ cap := by
    rw [hl, Nat.add_zero] at h1
    exact Nat.le_of_mul_le_mul_right h1 (by omega)
  obtain ⟨a, e1, e2⟩ := h.cut (j := j.toNat) hj
  cases e1
  refine ⟨.slice (some ⟨b, q, none⟩) j.toNat cap, ?_, e2, rfl⟩
  simp only [pureV, bnds, Option.bind_some, cutV, Option.getD_some, Option.getD_none]
  rw [if_pos ⟨Int.le_refl _, h0, by omega⟩]
  simp only [Option.map_some, Int.toNat_zero, Nat.sub_zero, addO, Nat.zero_mul]
  split
  · rfl
  · simp [Addr.add]
/-- Bytes with a mark in the room behind them. -/
def Lent (G0 G : GH) (u : Value) (bs : List UInt8) : Prop := ∃ b sp, G0 b = none ∧ OwnB 1 G b u (bs.map bv) (bv 90 :: sp)
theorem Lent.le {G0 G G' : GH} {u : Value} {bs : List UInt8} (h : Lent G0 G u bs) (hl : G.le G') : Lent G0 G' u bs :=
  let ⟨b, sp, h0, h⟩ := h; ⟨b, sp, h0, h.le fun o => hl b o⟩
theorem Lent.sl {G0 G : GH} {u : Value} {bs : List UInt8} (h : Lent G0 G u bs) : By G u bs := let ⟨_, _, _, h⟩ := h; h.sl
theorem Lent.base {G0 G1 G : GH} {u : Value} {bs : List UInt8} (h : Lent G1 G u bs) (hl : G0.le G1) : Lent G0 G u bs := by
  obtain ⟨b, sp, h0, h⟩ := h
  refine ⟨b, sp, ?_, h⟩
  cases e : G0 b with
  | none => rfl
  | some o => rw [hl b o e] at h0; cases h0
theorem Lent.keep {G0 G G' : GH} {u : Value} {bs : List UInt8} (h : Lent G0 G u bs) (hk : ∀ b, blkS u = some b → ∀ o, G b = some o → G' b = some o) : Lent G0 G' u bs :=
  let ⟨b, sp, h0, h⟩ := h; ⟨b, sp, h0, h.le (hk b h.blk)⟩
theorem Lent.at {G0 G : GH} {u : Value} {bs : List UInt8} (h : Lent G0 G u bs) : ∃ b o, blkS u = some b ∧ G b = some o ∧ G0 b = none := by
  obtain ⟨b, sp, h0, h⟩ := h
  have hb := h.blk
  obtain ⟨q, len, cap, cs, e, fr, _, hG, _⟩ := h
  exact ⟨b, _, hb, hG, h0⟩
def Lents (G0 G : GH) (u : Value) (us : List Value) (ps : List (List UInt8)) : Prop := Sl 1 G u us ∧ us.length = ps.length ∧ ∀ i (h : i < ps.length), ∃ w, us[i]? = some w ∧ Lent G0 G w ps[i]
theorem Lents.parts {G0 G : GH} {u : Value} {us : List Value} {ps : List (List UInt8)} (h : Lents G0 G u us ps) : Parts G u us ps := ⟨h.1, h.2.1, fun i hi => let ⟨w, e, k⟩ := h.2.2 i hi; ⟨w, e, k.sl⟩⟩
theorem Lents.le {G0 G G' : GH} {u : Value} {us : List Value} {ps : List (List UInt8)} (h : Lents G0 G u us ps) (hl : G.le G') : Lents G0 G' u us ps :=
  ⟨h.1.le hl, h.2.1, fun i hi => let ⟨w, e, k⟩ := h.2.2 i hi; ⟨w, e, k.le hl⟩⟩
theorem Lents.base {G0 G1 G : GH} {u : Value} {us : List Value} {ps : List (List UInt8)} (h : Lents G1 G u us ps) (hl : G0.le G1) : Lents G0 G u us ps :=
  ⟨h.1, h.2.1, fun i hi => let ⟨w, e, k⟩ := h.2.2 i hi; ⟨w, e, k.base hl⟩⟩
end Go.Proofs.Ytbpjjhbkahinjaa.V
