/- A modulus in memory; rests. -/
import Derived.Test.YtiijcncdjjdglaaPQA
import Derived.Test.YtiijcncdjjdglaaPNS
import Derived.Test.YtiijcncdjjdglaaPNX
import Derived.Test.YtiijcncdjjdglaaPCP
set_option linter.unusedSimpArgs false
set_option linter.unusedVariables false
-- @nums
-- @extra s_nilPf s_nilPt s_nilNf s_nilNt s_nilck s_fptr0
namespace Go.Proofs.Ytiijcncdjjdglaa.V
open Go.RowKit Go.ChangeShapes Go.WideShapes
/-- A modulus that is made, as far as its number goes. -/
structure PM (G : GH) (b M : Nat) (um l ur uq : Value) : Prop where
  hG : ∃ T, G b = some (.cells #[um, l, ur, uq] T)
  hm : Nu .u64 G um (dg 18446744073709551616 M)
  h1 : 1 < M
  h8 : (dg 18446744073709551616 M).length ≤ 8
theorem PM.le {G G' : GH} {b M : Nat} {um l ur uq : Value} (h : PM G b M um l ur uq) (hl : G.le G') : PM G' b M um l ur uq := ⟨let ⟨T, e⟩ := h.hG; ⟨T, hl _ _ e⟩, h.hm.le hl, h.h1, h.h8⟩
theorem PM.p0 {G : GH} {b M : Nat} {um l ur uq : Value} (h : PM G b M um l ur uq) : PtR G (.pointer (some ⟨b, 0, none⟩)) 1 false um := let ⟨T, e⟩ := h.hG; ⟨_, _, _, _, _, rfl, e, rfl⟩
theorem PM.p1 {G : GH} {b M : Nat} {um l ur uq : Value} (h : PM G b M um l ur uq) : PtR G (.pointer (some ⟨b, 1, none⟩)) 1 false l := let ⟨T, e⟩ := h.hG; ⟨_, _, _, _, _, rfl, e, rfl⟩
theorem PM.p2 {G : GH} {b M : Nat} {um l ur uq : Value} (h : PM G b M um l ur uq) : PtR G (.pointer (some ⟨b, 2, none⟩)) 1 false ur := let ⟨T, e⟩ := h.hG; ⟨_, _, _, _, _, rfl, e, rfl⟩
theorem PM.p3 {G : GH} {b M : Nat} {um l ur uq : Value} (h : PM G b M um l ur uq) : PtR G (.pointer (some ⟨b, 3, none⟩)) 1 false uq := let ⟨T, e⟩ := h.hG; ⟨_, _, _, _, _, rfl, e, rfl⟩
theorem PM.len {G : GH} {b M : Nat} {um l ur uq : Value} (h : PM G b M um l ur uq) : 1 ≤ (dg 18446744073709551616 M).length := by
  rcases Nat.eq_zero_or_pos (dg 18446744073709551616 M).length with h0 | h0
  · have := (dg_ne (by decide)).1 (List.eq_nil_of_length_eq_zero h0); have := h.h1; omega
  · exact h0
theorem noneF {G : GH} {b M : Nat} {um l ur uq : Value} (h : PM G b M um l ur uq) : HC Try.prog 40 #[pt b] G fun v G' => v = .bool false ∧ G' = G := by
  have P0 := h.p0
  have hm := h.hm
  have hl := h.len
  refine HC.start comp40 rfl ?_; unfold pc40
  (repeat' (first | (with_reducible refine i_ops ?_; first | (refine g_mv ?_; refine s_mv ?_) | refine o_nil ?_ | (refine g_some ?_; first | refine s_g_t ?_ | refine s_g_f ?_ | refine s_g_f' ?_ | refine s_g_u ?_) | (refine g_pick ?_; first | refine s_pick_t ?_ | refine s_pick_f ?_) | (refine g_len ?_; first | refine s_lenN ?_ | refine s_lenB ?_ | refine s_pure ?_) | (refine g_pure ?_; first | refine s_nilPf ?_ | refine s_nilPt ?_ | refine s_nilNf ?_ | refine s_nilNt ?_ | refine s_nilck ?_ | refine s_fptr0 ?_ | refine s_pure ?_ | refine s_saddB ?_) | (refine g_hload ?_; refine s_hloadP ?_)) | (with_reducible refine i_vc ?_; first | refine v_seq ?_ | refine v_ops ?_ | (refine g_cond ?_; first | refine s_cond_t ?_ | refine s_cond_f ?_) | refine v_skip ?_ | refine v_ret ?_) | (with_reducible first | refine n_then ?_ | refine r_then ?_ | refine e_then ?_) | ((with_reducible first | refine s_g_c ?_ ?_ | refine s_cond_c ?_ ?_) <;> intro hb <;> rw [hb] <;> (try simp only [decide_eq_true_eq, decide_eq_false_iff_not, beq_iff_eq, bne_iff_ne, beq_eq_false_iff_ne, bne_eq_false_iff_eq, ne_eq, Int.not_lt, Int.not_le, gt_iff_lt, ge_iff_le, Bool.not_eq_true', Bool.not_eq_false'] at hb)) | ((with_reducible first | refine s_ret ?_ | refine s_normal ?_); try simp only [x_tup0, x_tup1, x_tup2, x_tup3, x_tup4, x_tup5, and_true, true_and])))
  congr 1
  rw [beq_eq_false_iff_ne]
  omega
theorem must (x : Value) (e : Int) (G : GH) : HC Try.prog 35 #[x, .int .i64 e] G fun v G' => v = x ∧ G' = G := by
  refine HC.start comp35 rfl ?_; unfold pc35
  (repeat' (first | (with_reducible refine i_ops ?_; first | (refine g_mv ?_; refine s_mv ?_) | refine o_nil ?_ | (refine g_some ?_; first | refine s_g_t ?_ | refine s_g_f ?_ | refine s_g_f' ?_ | refine s_g_u ?_) | (refine g_pick ?_; first | refine s_pick_t ?_ | refine s_pick_f ?_) | (refine g_len ?_; first | refine s_lenN ?_ | refine s_lenB ?_ | refine s_pure ?_) | (refine g_pure ?_; first | refine s_nilPf ?_ | refine s_nilPt ?_ | refine s_nilNf ?_ | refine s_nilNt ?_ | refine s_nilck ?_ | refine s_fptr0 ?_ | refine s_pure ?_ | refine s_saddB ?_) | (refine g_hload ?_; refine s_hloadP ?_)) | (with_reducible refine i_vc ?_; first | refine v_seq ?_ | refine v_ops ?_ | (refine g_cond ?_; first | refine s_cond_t ?_ | refine s_cond_f ?_) | refine v_skip ?_ | refine v_ret ?_) | (with_reducible first | refine n_then ?_ | refine r_then ?_ | refine e_then ?_) | ((with_reducible first | refine s_g_c ?_ ?_ | refine s_cond_c ?_ ?_) <;> intro hb <;> rw [hb] <;> (try simp only [decide_eq_true_eq, decide_eq_false_iff_not, beq_iff_eq, bne_iff_ne, beq_eq_false_iff_ne, bne_eq_false_iff_eq, ne_eq, Int.not_lt, Int.not_le, gt_iff_lt, ge_iff_le, Bool.not_eq_true', Bool.not_eq_false'] at hb)) | ((with_reducible first | refine s_ret ?_ | refine s_normal ?_); try simp only [x_tup0, x_tup1, x_tup2, x_tup3, x_tup4, x_tup5, and_true, true_and])))
theorem ok_r {G : GH} {b M : Nat} {um l ur uq : Value} (h : PM G b M um l ur uq) {xs : List Nat} : ok64 xs (dg 18446744073709551616 M) ↔ ln xs ≤ 64 := by
  have := h.h8
  constructor
  · exact fun h => h.1
  · exact fun h2 => ⟨h2, by unfold ln; rw [val_dg (by decide)]; omega⟩
theorem Reduce {G : GH} {b M : Nat} {um l ur uq : Value} (h : PM G b M um l ur uq) (u : Value) (xs : List Nat) (hu : Nu .u64 G u xs) (hd : Dl 18446744073709551616 xs) : HC Try.prog 14 #[pt b, u] G fun v G' => NumR G (ln xs ≤ 64) (val 18446744073709551616 xs % M) 3 v G' := by
  have P0 := h.p0
  have hm := h.hm
  have hM := h.h1
  refine HC.start comp14 rfl ?_; unfold pc14
  (repeat' (first | (with_reducible refine i_ops ?_; first | (refine g_mv ?_; refine s_mv ?_) | refine o_nil ?_ | (refine g_some ?_; first | refine s_g_t ?_ | refine s_g_f ?_ | refine s_g_f' ?_ | refine s_g_u ?_) | (refine g_pick ?_; first | refine s_pick_t ?_ | refine s_pick_f ?_) | (refine g_len ?_; first | refine s_lenN ?_ | refine s_lenB ?_ | refine s_pure ?_) | (refine g_pure ?_; first | refine s_nilPf ?_ | refine s_nilPt ?_ | refine s_nilNf ?_ | refine s_nilNt ?_ | refine s_nilck ?_ | refine s_fptr0 ?_ | refine s_pure ?_ | refine s_saddB ?_) | (refine g_hload ?_; refine s_hloadP ?_) | refine o_callp (by with_unfolding_all rfl) (by first | exact noneF h) ?_ | (refine o_callg (by with_unfolding_all rfl) (by first | exact noneF h) ?_; intro G' hle)) | (with_reducible refine i_vc ?_; first | refine v_seq ?_ | refine v_ops ?_ | (refine g_cond ?_; first | refine s_cond_t ?_ | refine s_cond_f ?_) | refine v_skip ?_ | refine v_ret ?_) | (with_reducible first | refine n_then ?_ | refine r_then ?_ | refine e_then ?_) | ((with_reducible first | refine s_g_c ?_ ?_ | refine s_cond_c ?_ ?_) <;> intro hb <;> rw [hb] <;> (try simp only [decide_eq_true_eq, decide_eq_false_iff_not, beq_iff_eq, bne_iff_ne, beq_eq_false_iff_ne, bne_eq_false_iff_eq, ne_eq, Int.not_lt, Int.not_le, gt_iff_lt, ge_iff_le, Bool.not_eq_true', Bool.not_eq_false'] at hb)) | ((with_reducible first | refine s_ret ?_ | refine s_normal ?_); try simp only [x_tup0, x_tup1, x_tup2, x_tup3, x_tup4, x_tup5, and_true, true_and])))
  refine o_callc (by with_unfolding_all rfl) (Div u um xs (dg 18446744073709551616 M) G hu hm hd (dg_lt (by decide) _)) ?_
  rw [val_dg (by decide)]
  rintro _ G1 ⟨hle, ⟨h1, rfl⟩ | ⟨_, h1, _⟩ | ⟨h1, _, q, r, rfl, hq, hr, _⟩⟩
  · (repeat' (first | (with_reducible refine i_ops ?_; first | (refine g_mv ?_; refine s_mv ?_) | refine o_nil ?_ | (refine g_some ?_; first | refine s_g_t ?_ | refine s_g_f ?_ | refine s_g_f' ?_ | refine s_g_u ?_) | (refine g_pick ?_; first | refine s_pick_t ?_ | refine s_pick_f ?_) | (refine g_len ?_; first | refine s_lenN ?_ | refine s_lenB ?_ | refine s_pure ?_) | (refine g_pure ?_; first | refine s_nilPf ?_ | refine s_nilPt ?_ | refine s_nilNf ?_ | refine s_nilNt ?_ | refine s_nilck ?_ | refine s_fptr0 ?_ | refine s_pure ?_ | refine s_saddB ?_) | (refine g_hload ?_; refine s_hloadP ?_)) | (with_reducible refine i_vc ?_; first | refine v_seq ?_ | refine v_ops ?_ | (refine g_cond ?_; first | refine s_cond_t ?_ | refine s_cond_f ?_) | refine v_skip ?_ | refine v_ret ?_) | (with_reducible first | refine n_then ?_ | refine r_then ?_ | refine e_then ?_) | ((with_reducible first | refine s_g_c ?_ ?_ | refine s_cond_c ?_ ?_) <;> intro hb <;> rw [hb] <;> (try simp only [decide_eq_true_eq, decide_eq_false_iff_not, beq_iff_eq, bne_iff_ne, beq_eq_false_iff_ne, bne_eq_false_iff_eq, ne_eq, Int.not_lt, Int.not_le, gt_iff_lt, ge_iff_le, Bool.not_eq_true', Bool.not_eq_false'] at hb)) | ((with_reducible first | refine s_ret ?_ | refine s_normal ?_); try simp only [x_tup0, x_tup1, x_tup2, x_tup3, x_tup4, x_tup5, and_true, true_and])))
    exact ⟨hle, .inl ⟨fun h2 => h1 ((ok_r h).2 h2), rfl⟩⟩
  · omega
  · (repeat' (first | (with_reducible refine i_ops ?_; first | (refine g_mv ?_; refine s_mv ?_) | refine o_nil ?_ | (refine g_some ?_; first | refine s_g_t ?_ | refine s_g_f ?_ | refine s_g_f' ?_ | refine s_g_u ?_) | (refine g_pick ?_; first | refine s_pick_t ?_ | refine s_pick_f ?_) | (refine g_len ?_; first | refine s_lenN ?_ | refine s_lenB ?_ | refine s_pure ?_) | (refine g_pure ?_; first | refine s_nilPf ?_ | refine s_nilPt ?_ | refine s_nilNf ?_ | refine s_nilNt ?_ | refine s_nilck ?_ | refine s_fptr0 ?_ | refine s_pure ?_ | refine s_saddB ?_) | (refine g_hload ?_; refine s_hloadP ?_)) | (with_reducible refine i_vc ?_; first | refine v_seq ?_ | refine v_ops ?_ | (refine g_cond ?_; first | refine s_cond_t ?_ | refine s_cond_f ?_) | refine v_skip ?_ | refine v_ret ?_) | (with_reducible first | refine n_then ?_ | refine r_then ?_ | refine e_then ?_) | ((with_reducible first | refine s_g_c ?_ ?_ | refine s_cond_c ?_ ?_) <;> intro hb <;> rw [hb] <;> (try simp only [decide_eq_true_eq, decide_eq_false_iff_not, beq_iff_eq, bne_iff_ne, beq_eq_false_iff_ne, bne_eq_false_iff_eq, ne_eq, Int.not_lt, Int.not_le, gt_iff_lt, ge_iff_le, Bool.not_eq_true', Bool.not_eq_false'] at hb)) | ((with_reducible first | refine s_ret ?_ | refine s_normal ?_); try simp only [x_tup0, x_tup1, x_tup2, x_tup3, x_tup4, x_tup5, and_true, true_and])))
    exact ⟨hle, .inr ⟨(ok_r h).1 h1, r, rfl, hr⟩⟩
end Go.Proofs.Ytiijcncdjjdglaa.V
