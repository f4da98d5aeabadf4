/- Words added, taken from one another and multiplied, with what goes on. -/
import Derived.Test.YtdeihgcgglhhcaaPeCA
import Derived.Test.YtdeihgcgglhhcaaPeCV
import Derived.Shelf.Spec.BitsCarry
set_option linter.unusedSimpArgs false
set_option linter.unusedVariables false
-- @nums
-- @extra s_wadd s_wmul s_wand s_wshr
namespace Go.Proofs.Ytdeihgcgglhhcaa.V
open Go.RowKit Go.ChangeShapes Go.WideShapes
section
variable {E : Env} {K : St → Prop} {r : List Stp} {dd : Option Nat} {L : SL} {A : AL} {G : GH}
theorem k_add64 {d : Nat} {xs : List Operand} (x y c : Nat) {x' y' c' : Int} (hx : evs L xs = some [.int .u64 x', .int .u64 y', .int .u64 c']) (ex : x' = x) (ey : y' = y) (ec : c' = c) (hc : c ≤ 1) (h : vops Try.prog E r K (S (.set d (.tuple #[iv .u64 ((x + y + c) % 18446744073709551616), iv .u64 ((x + y + c) / 18446744073709551616)]) L) A G)) : vops Try.prog E (⟨none, dd, .callx d 63 xs⟩ :: r) K (S L A G) := by
  subst ex ey ec
  refine o_callx hx (fun w => ?_) h
  rw [run_callFunc_extern Try.func63 (by kernel_rfl) (by kernel_rfl) (by kernel_rfl) (e := add64Entry) (by kernel_rfl), run_add64 x y c (by omega) (by omega) (by omega) (by omega)]
  simp only [Result.andThen]
  congr 5 <;> omega
theorem k_sub64 {d : Nat} {xs : List Operand} (x y c : Nat) {x' y' c' : Int} (hx : evs L xs = some [.int .u64 x', .int .u64 y', .int .u64 c']) (ex : x' = x) (ey : y' = y) (ec : c' = c) (hc : c ≤ 1) (h : vops Try.prog E r K (S (.set d (.tuple #[iv .u64 ((x + 18446744073709551616 - y - c) % 18446744073709551616), iv .u64 (if x < y + c then 1 else 0)]) L) A G)) : vops Try.prog E (⟨none, dd, .callx d 62 xs⟩ :: r) K (S L A G) := by
  subst ex ey ec
  refine o_callx hx (fun w => ?_) h
  rw [run_callFunc_extern Try.func62 (by kernel_rfl) (by kernel_rfl) (by kernel_rfl) (e := sub64Entry) (by kernel_rfl), run_sub64 x y c hc]
  rfl
theorem k_sub {d : Nat} {xs : List Operand} (x y c : Nat) {x' y' c' : Int} (hx : evs L xs = some [.int .u64 x', .int .u64 y', .int .u64 c']) (ex : x' = x) (ey : y' = y) (ec : c' = c) (hc : c ≤ 1) (h1 : x < 18446744073709551616) (h2 : y < 18446744073709551616) (h : ∀ z w : Nat, z < 18446744073709551616 → w ≤ 1 → z + y + c = x + 18446744073709551616 * w → vops Try.prog E r K (S (.set d (.tuple #[iv .u64 z, iv .u64 w]) L) A G)) : vops Try.prog E (⟨none, dd, .callx d 62 xs⟩ :: r) K (S L A G) :=
  k_sub64 x y c hx ex ey ec hc (h _ _ (Nat.mod_lt _ (by decide)) (by split <;> omega) (by split <;> omega))
end
theorem MulK (x y : Nat) (G : GH) (hx : x < 18446744073709551616) (hy : y < 18446744073709551616) : HC Try.prog 67 #[iv .u64 x, iv .u64 y] G fun v G' => v = .tuple #[iv .u64 (x * y / 18446744073709551616), iv .u64 (x * y % 18446744073709551616)] ∧ G' = G := by
  refine HC.start comp67 rfl ?_; unfold pc67
  (repeat' (first | (with_reducible refine i_ops ?_; first | (refine g_mv ?_; refine s_mv ?_) | refine o_nil ?_ | (refine g_pure ?_; first | refine s_wadd ?_ | refine s_wmul ?_ | refine s_wand ?_ | refine s_wshr ?_ | refine s_pure ?_ | refine s_saddB ?_)) | (with_reducible refine i_vc ?_; first | refine v_seq ?_ | refine v_ops ?_ | (refine g_cond ?_; first | refine s_cond_t ?_ | refine s_cond_f ?_) | refine v_skip ?_ | refine v_ret ?_) | (with_reducible first | refine n_then ?_ | refine r_then ?_ | refine e_then ?_) | ((with_reducible first | refine s_cond_c ?_ ?_) <;> intro hb <;> rw [hb] <;> (try simp only [decide_eq_true_eq, decide_eq_false_iff_not, beq_iff_eq, bne_iff_ne, beq_eq_false_iff_ne, bne_eq_false_iff_eq, ne_eq, Int.not_lt, Int.not_le, gt_iff_lt, ge_iff_le, Bool.not_eq_true', Bool.not_eq_false'] at hb)) | ((with_reducible first | refine s_ret ?_ | refine s_normal ?_); try simp only [x_tup0, x_tup1, x_tup2, x_tup3, x_tup4, x_tup5, and_true, true_and])))
  have e : ∀ p q : Nat, p = q → Value.tuple #[iv .u64 p, iv .u64 (x * y % 18446744073709551616)] = Value.tuple #[iv .u64 q, iv .u64 (x * y % 18446744073709551616)] := fun p q h => by rw [h]
  refine e _ _ ?_
  simp only [Nat.reducePow]
  rw [and32, and32, and32]
  have := mul64_arith x y (by omega) (by omega) (by omega) (by omega)
  apply Int.ofNat_inj.1
  simp only [Int.natCast_add, Int.natCast_mul, Int.natCast_ediv, Int.natCast_emod, Int.cast_ofNat_Int]
  exact this
end Go.Proofs.Ytdeihgcgglhhcaa.V
