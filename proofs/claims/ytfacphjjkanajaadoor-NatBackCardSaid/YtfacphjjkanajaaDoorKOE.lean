/- The document's bytes of a number; bits. -/
import Derived.Test.YtfacphjjkanajaaDoorKOC
set_option linter.unusedSimpArgs false
set_option linter.unusedVariables false
-- @nums
-- @push
-- @extra s_c8 s_nquoc s_nremc s_wshr s_wremc
namespace Go.Proofs.YtfacphjjkanajaaDoor.V
open Go.RowKit Go.ChangeShapes Go.WideShapes
def bitR (xs : List Nat) (i : Int) : Nat := if i < 0 then 0 else val 18446744073709551616 xs / 2 ^ i.toNat % 2
theorem nBitI (u : Value) (xs : List Nat) (i : Int) (G : GH) (h : Nu .u64 G u xs) (hd : Dl 18446744073709551616 xs) (hi : -9223372036854775808 ≤ i ∧ i ≤ 9223372036854775807) : HC Tryd.prog 14 #[u, .int .i64 i] G fun v G' => v = iv .u64 (bitR xs i) ∧ G' = G := by
  unfold bitR
  by_cases h0 : i < 0
  · rw [if_pos h0]
    refine HC.start comp14 rfl ?_; unfold pc14
    (repeat' (first | (with_reducible refine i_ops ?_; first | (refine g_mv ?_; refine s_mv ?_) | refine o_nil ?_ | (refine g_some ?_; first | refine s_g_t ?_ | refine s_g_f ?_ | refine s_g_f' ?_ | refine s_g_u ?_) | (refine g_pick ?_; first | refine s_pick_t ?_ | refine s_pick_f ?_) | (refine g_len ?_; first | refine s_lenN ?_ | refine s_lenB ?_ | refine s_pure ?_) | (refine g_idx ?_; first | (refine s_idxN ?_; intro p hp; try simp only [Int.toNat_natCast] at hp) | (refine s_idxOB ?_; intro p hp hpw) | (refine s_idxB ?_; intro p hp)) | (refine g_pure ?_; first | refine s_c8 ?_ | refine s_nquoc ?_ | refine s_nremc ?_ | refine s_wshr ?_ | refine s_wremc ?_ | refine s_pure ?_ | refine s_saddB ?_) | (refine g_hload ?_; refine s_hloadP ?_) | (refine g_push ?_; (refine s_pushN ?_; intro w u' G' hle ho hkp))) | (with_reducible refine i_vc ?_; first | refine v_seq ?_ | refine v_ops ?_ | (refine g_cond ?_; first | refine s_cond_t ?_ | refine s_cond_f ?_) | refine v_block ?_ | refine v_skip ?_ | refine v_exit ?_ | refine v_ret ?_) | (with_reducible first | refine n_then ?_ | refine r_then ?_ | refine e_then ?_ | refine n_block ?_ | refine r_block ?_ | refine e_block_eq (by with_unfolding_all rfl) ?_ | refine e_block_ne (by with_unfolding_all rfl) ?_) | ((with_reducible first | refine s_g_c ?_ ?_ | refine s_cond_c ?_ ?_) <;> intro hb <;> rw [hb] <;> (try simp only [decide_eq_true_eq, decide_eq_false_iff_not, beq_iff_eq, bne_iff_ne, beq_eq_false_iff_ne, bne_eq_false_iff_eq, ne_eq, Int.not_lt, Int.not_le, gt_iff_lt, ge_iff_le, Bool.not_eq_true', Bool.not_eq_false'] at hb)) | ((with_reducible first | refine s_ret ?_ | refine s_normal ?_); try simp only [x_tup0, x_tup1, x_tup2, x_tup3, x_tup4, x_tup5, and_true, true_and])))
    all_goals first | rfl | (exfalso; omega)
  · rw [if_neg h0]
    obtain ⟨n, rfl⟩ : ∃ n : Nat, i = n := ⟨i.toNat, by omega⟩
    exact nBit u xs n G h hd (by omega)
end Go.Proofs.YtfacphjjkanajaaDoor.V
