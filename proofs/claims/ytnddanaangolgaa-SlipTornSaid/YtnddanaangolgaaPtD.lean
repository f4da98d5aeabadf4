/- SlipSums. -/
import Derived.Test.YtnddanaangolgaaPtC
import Derived.Test.YtnddanaangolgaaPtCD
import Derived.Test.YtnddanaangolgaaPtVL
import Derived.Test.YtnddanaangolgaaRows
set_option linter.unusedSimpArgs false
set_option linter.unusedVariables false
namespace Go.Proofs.Ytnddanaangolgaa.V
open Go.RowKit Go.ChangeShapes Go.WideShapes
def sizeV (n : Int) : Int := if n < 0 ∨ n > 65535 then 0 else n + 7
theorem size14 (n : Int) (G : GH) : HC Try.prog 14 #[.int .i64 n] G fun v G' => v = .int .i64 (sizeV n) ∧ G' = G := by
  refine HC.start comp14 rfl ?_; unfold pc14
  (repeat' (first | (with_reducible refine i_ops ?_; first | (refine g_mv ?_; refine s_mv ?_) | refine o_nil ?_ | (refine g_some ?_; first | refine s_g_t ?_ | refine s_g_f ?_ | refine s_g_f' ?_ | refine s_g_u ?_) | (refine g_pick ?_; first | refine s_pick_t ?_ | refine s_pick_f ?_) | (refine g_pure ?_; first | refine s_pure ?_ | refine s_saddB ?_)) | (with_reducible refine i_vc ?_; first | refine v_seq ?_ | refine v_ops ?_ | (refine g_cond ?_; first | refine s_cond_t ?_ | refine s_cond_f ?_) | refine v_skip ?_ | refine v_ret ?_) | (with_reducible first | refine n_then ?_ | refine r_then ?_ | refine e_then ?_) | ((with_reducible first | refine s_g_c ?_ ?_ | refine s_cond_c ?_ ?_) <;> intro hb <;> rw [hb] <;> (try simp only [decide_eq_true_eq, decide_eq_false_iff_not, beq_iff_eq, bne_iff_ne, beq_eq_false_iff_ne, bne_eq_false_iff_eq, ne_eq, Int.not_lt, Int.not_le, gt_iff_lt, ge_iff_le, Bool.not_eq_true', Bool.not_eq_false'] at hb)) | ((with_reducible first | refine s_ret ?_ | refine s_normal ?_); try simp only [x_tup0, x_tup1, x_tup2, x_tup3, x_tup4, x_tup5, and_true, true_and])))
  · unfold sizeV; rw [if_pos (by omega)]
  · unfold sizeV; rw [if_pos (by omega)]
  · unfold sizeV; rw [if_neg (by omega), show 3 + n + 4 = n + 7 by omega]
theorem one_part {G : GH} {u w : Value} {bs : List UInt8} (hu : Sl 1 G u [w]) (hw : By G w bs) : Parts G u [w] [bs] := by
  refine ⟨hu, rfl, fun i hi => ?_⟩
  obtain rfl : i = 0 := by simp at hi; omega
  exact ⟨_, rfl, hw⟩
theorem two_parts {G : GH} {u w1 w2 : Value} {b1 b2 : List UInt8} (hu : Sl 1 G u [w1, w2]) (h1 : By G w1 b1) (h2 : By G w2 b2) : Parts G u [w1, w2] [b1, b2] := by
  refine ⟨hu, rfl, fun i hi => ?_⟩
  rcases i with _ | _ | i
  · exact ⟨_, rfl, h1⟩
  · exact ⟨_, rfl, h2⟩
  · simp at hi; omega
end Go.Proofs.Ytnddanaangolgaa.V
