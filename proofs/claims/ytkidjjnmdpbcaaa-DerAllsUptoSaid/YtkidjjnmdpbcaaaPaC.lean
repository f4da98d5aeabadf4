/- An element is taken. -/
import Derived.Test.YtkidjjnmdpbcaaaPaB
set_option linter.unusedSimpArgs false
set_option linter.unusedVariables false
namespace Go.Proofs.Ytkidjjnmdpbcaaa.V
open Go.RowKit Go.ChangeShapes Go.WideShapes
theorem hdr_ok {bs : List UInt8} (h : hdrE bs = 0) : 2 ≤ hdrF bs ∧ hdrF bs ≤ 5 ∧ hdrF bs ≤ bs.length ∧ 0 ≤ hdrN bs ∧ hdrN bs ≤ 16777215 ∧ tagP (byt bs 0) := by
  have x1 := lt8 (bs.getD 1 0)
  unfold hdrE at h
  split at h
  · omega
  split at h
  · omega
  rename_i h0 ht
  have ht : tagP (byt bs 0) := by
    by_cases k : tagP (byt bs 0)
    · exact k
    · exact absurd k ht
  split at h
  · omega
  split at h
  · rename_i h1 h2
    unfold hdrF hdrN
    rw [if_pos h2, if_pos h2]
    refine ⟨by omega, by omega, by omega, by simp only [byt]; omega, by simp only [byt] at h2 ⊢; omega, ht⟩
  split at h
  · omega
  split at h
  · omega
  split at h
  · omega
  rename_i h1 h2 h3 h4 h5
  unfold hdrF hdrN
  rw [if_neg h2, if_neg h2]
  have hb := num_nn ((bs.drop 2).take (byt bs 1 - 128).toNat) (byt bs 1 - 128).toNat (by rw [List.length_take, List.length_drop]; omega)
  rw [List.take_take, Nat.min_self] at hb
  obtain ⟨k, hk⟩ : ∃ k, (byt bs 1 - 128).toNat = k := ⟨_, rfl⟩
  have hk3 : k ≤ 3 := by omega
  rw [hk] at hb ⊢
  have : (256 : Int) ^ k ≤ 16777216 := by rcases k with _ | _ | _ | _ | k <;> first | decide | omega
  refine ⟨by omega, by omega, by omega, by omega, by omega, ht⟩
/-- What is wrong with the element with which bytes begin; its content. -/
def tkE (bs : List UInt8) : Int := if hdrE bs ≠ 0 then hdrE bs else if (bs.length : Int) - hdrF bs < hdrN bs then 10 else 0
def tkC (bs : List UInt8) : List UInt8 := (bs.drop (hdrF bs).toNat).take (hdrN bs).toNat
abbrev nilE : Value := .agg #[.int .i64 0, .slice none 0 0]
def TakeR (bs : List UInt8) (G : GH) (v : Value) (G' : GH) : Prop := G.le G' ∧ ((tkE bs ≠ 0 ∧ v = .tuple #[nilE, .int .i64 0, .int .i64 (tkE bs)]) ∨ (tkE bs = 0 ∧ ∃ w, Own 1 G G' w ((tkC bs).map bv) ∧ v = .tuple #[.agg #[.int .i64 (byt bs 0), w], .int .i64 (hdrF bs + hdrN bs), .int .i64 0]))
theorem tk_err {bs : List UInt8} {G : GH} {c : Int} (h : hdrE bs = c) (hc : c ≠ 0) : TakeR bs G (.tuple #[nilE, .int .i64 0, .int .i64 c]) G := by
  have e : tkE bs = c := by unfold tkE; rw [if_pos (by omega), h]
  exact ⟨GH.le_refl _, .inl ⟨by omega, by rw [e]⟩⟩
theorem tk_short {bs : List UInt8} {G : GH} (h : hdrE bs = 0) (hc : (bs.length : Int) - hdrF bs < hdrN bs) : TakeR bs G (.tuple #[nilE, .int .i64 0, .int .i64 10]) G := by
  have e : tkE bs = 10 := by unfold tkE; rw [if_neg (by omega), if_pos hc]
  exact ⟨GH.le_refl _, .inl ⟨by omega, by rw [e]⟩⟩
theorem tk_ok {bs : List UInt8} {G G' : GH} {w : Value} (h : hdrE bs = 0) (hc : hdrN bs ≤ (bs.length : Int) - hdrF bs) (hle : G.le G') (hw : Own 1 G G' w ((tkC bs).map bv)) : TakeR bs G (.tuple #[.agg #[.int .i64 (byt bs 0), w], .int .i64 (hdrF bs + hdrN bs), .int .i64 0]) G' := by
  have e : tkE bs = 0 := by unfold tkE; rw [if_neg (by omega), if_neg (by omega)]
  exact ⟨hle, .inr ⟨e, w, hw, rfl⟩⟩
theorem tkC_eq {bs : List UInt8} (h : hdrE bs = 0) : List.take ((hdrF bs + hdrN bs).toNat - (hdrF bs).toNat) (List.drop (hdrF bs).toNat bs) = tkC bs := by
  obtain ⟨f1, f2, f3, n1, n2, _⟩ := hdr_ok h
  have e : (hdrF bs + hdrN bs).toNat - (hdrF bs).toNat = (hdrN bs).toNat := by omega
  rw [e, tkC]
theorem tkC_len {bs : List UInt8} (h : hdrE bs = 0) : (tkC bs).length ≤ 16777215 := by
  have := hdr_ok h
  unfold tkC; rw [List.length_take]; omega
theorem take20 (u : Value) (bs : List UInt8) (G : GH) (h : By G u bs) : HC Try.prog 20 #[u] G fun v G' => TakeR bs G v G' := by
  have hl := By.len_le h
  refine HC.start comp20 rfl ?_; unfold pc20
  (repeat' (first | (with_reducible refine i_ops ?_; first | (refine g_mv ?_; refine s_mv ?_) | refine o_nil ?_ | (refine g_some ?_; first | refine s_g_t ?_ | refine s_g_f ?_ | refine s_g_f' ?_ | refine s_g_u ?_) | (refine g_pick ?_; first | refine s_pick_t ?_ | refine s_pick_f ?_) | (refine g_len ?_; first | refine s_lenB ?_ | refine s_pure ?_) | (refine g_slc ?_; ((first | refine s_slcB ?_ | refine s_slcB01 ?_ | refine s_slcB10 ?_); intro us hus hbs)) | (refine g_build ?_; first | refine s_build ?_ | refine s_buildP ?_) | (refine g_pure ?_; first | refine s_pure ?_ | refine s_saddB ?_) | (refine g_lstore ?_; first | refine s_lstoreA ?_ | refine s_lstore ?_) | (refine g_lalloc ?_; refine s_lalloc ?_)) | (with_reducible refine i_vc ?_; first | refine v_seq ?_ | refine v_ops ?_ | (refine g_cond ?_; first | refine s_cond_t ?_ | refine s_cond_f ?_) | refine v_skip ?_ | refine v_ret ?_) | (with_reducible first | refine n_then ?_ | refine r_then ?_ | refine e_then ?_) | ((with_reducible first | refine s_g_c ?_ ?_ | refine s_cond_c ?_ ?_) <;> intro hb <;> rw [hb] <;> (try simp only [decide_eq_true_eq, decide_eq_false_iff_not, beq_iff_eq, bne_iff_ne, beq_eq_false_iff_ne, bne_eq_false_iff_eq, ne_eq, Int.not_lt, Int.not_le, gt_iff_lt, ge_iff_le, Bool.not_eq_true', Bool.not_eq_false'] at hb)) | ((with_reducible first | refine s_ret ?_ | refine s_normal ?_); try simp only [x_tup0, x_tup1, x_tup2, x_tup3, x_tup4, x_tup5, and_true, true_and])))
  refine o_callc (by with_unfolding_all rfl) (head40 u bs G h) ?_
  rintro v G' ⟨hv, rfl⟩
  rcases hv with ⟨he, rfl⟩ | ⟨he, rfl⟩
  · have hT := tk_err (G := G') rfl he
    (repeat' (first | (with_reducible refine i_ops ?_; first | (refine g_mv ?_; refine s_mv ?_) | refine o_nil ?_ | (refine g_some ?_; first | refine s_g_t ?_ | refine s_g_f ?_ | refine s_g_f' ?_ | refine s_g_u ?_) | (refine g_pick ?_; first | refine s_pick_t ?_ | refine s_pick_f ?_) | (refine g_len ?_; first | refine s_lenB ?_ | refine s_pure ?_) | (refine g_slc ?_; ((first | refine s_slcB ?_ | refine s_slcB01 ?_ | refine s_slcB10 ?_); intro us hus hbs)) | (refine g_build ?_; first | refine s_build ?_ | refine s_buildP ?_) | (refine g_pure ?_; first | refine s_pure ?_ | refine s_saddB ?_) | (refine g_lstore ?_; first | refine s_lstoreA ?_ | refine s_lstore ?_) | (refine g_lalloc ?_; refine s_lalloc ?_)) | (with_reducible refine i_vc ?_; first | refine v_seq ?_ | refine v_ops ?_ | (refine g_cond ?_; first | refine s_cond_t ?_ | refine s_cond_f ?_) | refine v_skip ?_ | refine v_ret ?_) | (with_reducible first | refine n_then ?_ | refine r_then ?_ | refine e_then ?_) | ((with_reducible first | refine s_g_c ?_ ?_ | refine s_cond_c ?_ ?_) <;> intro hb <;> rw [hb] <;> (try simp only [decide_eq_true_eq, decide_eq_false_iff_not, beq_iff_eq, bne_iff_ne, beq_eq_false_iff_ne, bne_eq_false_iff_eq, ne_eq, Int.not_lt, Int.not_le, gt_iff_lt, ge_iff_le, Bool.not_eq_true', Bool.not_eq_false'] at hb)) | ((with_reducible first | refine s_ret ?_ | refine s_normal ?_); try simp only [x_tup0, x_tup1, x_tup2, x_tup3, x_tup4, x_tup5, and_true, true_and])))
    all_goals first | exact hT | (exfalso; omega)
  · obtain ⟨f1, f2, f3, n1, n2, tg⟩ := hdr_ok he
    (repeat' (first | (with_reducible refine i_ops ?_; first | (refine g_mv ?_; refine s_mv ?_) | refine o_nil ?_ | (refine g_some ?_; first | refine s_g_t ?_ | refine s_g_f ?_ | refine s_g_f' ?_ | refine s_g_u ?_) | (refine g_pick ?_; first | refine s_pick_t ?_ | refine s_pick_f ?_) | (refine g_len ?_; first | refine s_lenB ?_ | refine s_pure ?_) | (refine g_slc ?_; ((first | refine s_slcB ?_ | refine s_slcB01 ?_ | refine s_slcB10 ?_); intro us hus hbs)) | (refine g_build ?_; first | refine s_build ?_ | refine s_buildP ?_) | (refine g_pure ?_; first | refine s_pure ?_ | refine s_saddB ?_) | (refine g_lstore ?_; first | refine s_lstoreA ?_ | refine s_lstore ?_) | (refine g_lalloc ?_; refine s_lalloc ?_)) | (with_reducible refine i_vc ?_; first | refine v_seq ?_ | refine v_ops ?_ | (refine g_cond ?_; first | refine s_cond_t ?_ | refine s_cond_f ?_) | refine v_skip ?_ | refine v_ret ?_) | (with_reducible first | refine n_then ?_ | refine r_then ?_ | refine e_then ?_) | ((with_reducible first | refine s_g_c ?_ ?_ | refine s_cond_c ?_ ?_) <;> intro hb <;> rw [hb] <;> (try simp only [decide_eq_true_eq, decide_eq_false_iff_not, beq_iff_eq, bne_iff_ne, beq_eq_false_iff_ne, bne_eq_false_iff_eq, ne_eq, Int.not_lt, Int.not_le, gt_iff_lt, ge_iff_le, Bool.not_eq_true', Bool.not_eq_false'] at hb)) | ((with_reducible first | refine s_ret ?_ | refine s_normal ?_); try simp only [x_tup0, x_tup1, x_tup2, x_tup3, x_tup4, x_tup5, and_true, true_and])))
    · exact tk_short he hb
    · rw [tkC_eq he] at hus
      have hcl := tkC_len he
      refine o_callc (by with_unfolding_all rfl) (clone us _ G' hus (by omega)) ?_
      rintro w G2 ⟨hle2, hw⟩
      obtain ⟨a, n, c, rfl⟩ := hw.shape
      (repeat' (first | (with_reducible refine i_ops ?_; first | (refine g_mv ?_; refine s_mv ?_) | refine o_nil ?_ | (refine g_some ?_; first | refine s_g_t ?_ | refine s_g_f ?_ | refine s_g_f' ?_ | refine s_g_u ?_) | (refine g_pick ?_; first | refine s_pick_t ?_ | refine s_pick_f ?_) | (refine g_len ?_; first | refine s_lenB ?_ | refine s_pure ?_) | (refine g_slc ?_; ((first | refine s_slcB ?_ | refine s_slcB01 ?_ | refine s_slcB10 ?_); intro us hus hbs)) | (refine g_build ?_; first | refine s_build ?_ | refine s_buildP ?_) | (refine g_pure ?_; first | refine s_pure ?_ | refine s_saddB ?_) | (refine g_lstore ?_; first | refine s_lstoreA ?_ | refine s_lstore ?_) | (refine g_lalloc ?_; refine s_lalloc ?_)) | (with_reducible refine i_vc ?_; first | refine v_seq ?_ | refine v_ops ?_ | (refine g_cond ?_; first | refine s_cond_t ?_ | refine s_cond_f ?_) | refine v_skip ?_ | refine v_ret ?_) | (with_reducible first | refine n_then ?_ | refine r_then ?_ | refine e_then ?_) | ((with_reducible first | refine s_g_c ?_ ?_ | refine s_cond_c ?_ ?_) <;> intro hb <;> rw [hb] <;> (try simp only [decide_eq_true_eq, decide_eq_false_iff_not, beq_iff_eq, bne_iff_ne, beq_eq_false_iff_ne, bne_eq_false_iff_eq, ne_eq, Int.not_lt, Int.not_le, gt_iff_lt, ge_iff_le, Bool.not_eq_true', Bool.not_eq_false'] at hb)) | ((with_reducible first | refine s_ret ?_ | refine s_normal ?_); try simp only [x_tup0, x_tup1, x_tup2, x_tup3, x_tup4, x_tup5, and_true, true_and])))
      exact tk_ok he hb hle2 hw
end Go.Proofs.Ytkidjjnmdpbcaaa.V
