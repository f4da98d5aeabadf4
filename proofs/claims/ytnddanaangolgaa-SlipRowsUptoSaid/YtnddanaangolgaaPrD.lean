/- SlipSums. -/
import Derived.Test.YtnddanaangolgaaPrC
import Derived.Test.YtnddanaangolgaaPrCD
import Derived.Test.YtnddanaangolgaaPrVL
import Derived.Test.YtnddanaangolgaaRows
set_option linter.unusedSimpArgs false
set_option linter.unusedVariables false
namespace Go.Proofs.Ytnddanaangolgaa.V
open Go.RowKit Go.ChangeShapes Go.WideShapes
def sizeV (n : Int) : Int := if n < 0 ∨ n > 65535 then 0 else n + 7
theorem size14 (n : Int) (G : GH) : HC Try.prog 14 #[.int .i64 n] G fun v G' => v = .int .i64 (sizeV n) ∧ G' = G := by
  refine HC.start comp14 rfl ?_; unfold pc14
  (repeat' (first | (with_reducible refine i_ops ?_; first | (refine g_mv ?_; refine s_mv ?_) | refine o_nil ?_ | (refine g_some ?_; first | refine s_g_t ?_ | refine s_g_f ?_ | refine s_g_f' ?_ | refine s_g_u ?_) | (refine g_pick ?_; first | refine s_pick_t ?_ | refine s_pick_f ?_) | (refine g_pure ?_; first | refine s_pure ?_ | refine s_saddB ?_)) | (with_reducible refine i_vc ?_; first | refine v_seq ?_ | refine v_ops ?_ | (refine g_cond ?_; first | refine s_cond_t ?_ | refine s_cond_f ?_) | refine v_skip ?_ | refine v_ret ?_) | (with_reducible first | refine n_then ?_ | refine r_then ?_ | refine e_then ?_) | ((with_reducible first | refine s_g_c ?_ ?_ | refine s_cond_c ?_ ?_) <;> intro hb <;> rw [hb] <;> (try simp only [decide_eq_true_eq, decide_eq_false_iff_not, beq_iff_eq, bne_iff_ne, beq_eq_false_iff_ne, bne_eq_false_iff_eq, ne_eq, Int.not_lt, Int.not_le, gt_iff_lt, ge_iff_le, Bool.not_eq_true', Bool.not_eq_false'] at hb)) | ((with_reducible first | refine s_ret ?_ | refine s_normal ?_); try simp only [x_tup0, x_tup1, x_tup2, x_tup3, x_tup4, x_tup5, and_true, true_and])))
  · unfold sizeV; rw [if_pos (by omega)]
  · unfold sizeV; rw [if_pos (by omega)]
  · unfold sizeV; rw [if_neg (by omega), show 3 + n + 4 = n + 7 by omega]
theorem names17 (G : GH) : HC Try.prog 17 #[] G fun v G' => v = .bool true ∧ G' = G := by
  refine HC.start comp17 rfl ?_; unfold pc17
  (repeat' (first | (with_reducible refine i_ops ?_; first | (refine g_mv ?_; refine s_mv ?_) | refine o_nil ?_ | (refine g_some ?_; first | refine s_g_t ?_ | refine s_g_f ?_ | refine s_g_f' ?_ | refine s_g_u ?_) | (refine g_pick ?_; first | refine s_pick_t ?_ | refine s_pick_f ?_) | (refine g_pure ?_; first | refine s_pure ?_ | refine s_saddB ?_)) | (with_reducible refine i_vc ?_; first | refine v_seq ?_ | refine v_ops ?_ | (refine g_cond ?_; first | refine s_cond_t ?_ | refine s_cond_f ?_) | refine v_skip ?_ | refine v_ret ?_) | (with_reducible first | refine n_then ?_ | refine r_then ?_ | refine e_then ?_) | ((with_reducible first | refine s_g_c ?_ ?_ | refine s_cond_c ?_ ?_) <;> intro hb <;> rw [hb] <;> (try simp only [decide_eq_true_eq, decide_eq_false_iff_not, beq_iff_eq, bne_iff_ne, beq_eq_false_iff_ne, bne_eq_false_iff_eq, ne_eq, Int.not_lt, Int.not_le, gt_iff_lt, ge_iff_le, Bool.not_eq_true', Bool.not_eq_false'] at hb)) | ((with_reducible first | refine s_ret ?_ | refine s_normal ?_); try simp only [x_tup0, x_tup1, x_tup2, x_tup3, x_tup4, x_tup5, and_true, true_and])))
theorem one_part {G : GH} {u w : Value} {bs : List UInt8} (hu : Sl 1 G u [w]) (hw : By G w bs) : Parts G u [w] [bs] := by
  refine ⟨hu, rfl, fun i hi => ?_⟩
  obtain rfl : i = 0 := by simp at hi; omega
  exact ⟨_, rfl, hw⟩
theorem bulk_pos {H : Type} (d : DataW H) : 1 ≤ Rows.uptoBulk d := by
  cases d with
  | lit l => cases l <;> simp [Rows.uptoBulk]
  | _ => simp [Rows.uptoBulk]
theorem bulk_len {H : Type} : ∀ l : List (DataW H), l.length ≤ Rows.uptoBulkAll l
  | [] => by simp
  | d :: r => by
    have a := bulk_pos d
    have b := bulk_len r
    simp only [Rows.uptoBulkAll, List.length_cons]; omega
theorem bulk_mem {H : Type} : ∀ {l : List (DataW H)} {d : DataW H}, d ∈ l → Rows.uptoBulk d ≤ Rows.uptoBulkAll l
  | x :: l, d, h => by
    simp only [Rows.uptoBulkAll]
    rcases List.mem_cons.1 h with rfl | h
    · omega
    · have := bulk_mem h; omega
theorem bulk_slice {H : Type} {elems spare : List (DataW H)} {l : List (DataW H)} (h : DataW.slice elems spare ∈ l) : elems.length ≤ Rows.uptoBulkAll l := by
  have a := bulk_mem h
  have b := bulk_len elems
  simp only [Rows.uptoBulk] at a; omega
theorem top_bytesU {H : Type} {enc : TypeId × Value → H} {P : Program} {w : World} {r : Reach} {base : Nat} {v : Value} {ps : List MemPlace} {t e : TypeId} {d : DataW H} {ds : List (DataW H)} (ht : P.underlying t = some (.slice e)) (he : P.underlying e = some (.int .u8)) (hn : P.cellsOf e = 1)
    (hv : Value.okWide P w r base t v) (h : DataW.Trod enc P w 0 (fun _ => true) true t v d ps) (hd : d ∈ ds) (hk : Rows.uptoBulkAll ds ≤ 1048576) : ∃ bs, By (whole w) v bs ∧ bs.length ≤ 1048576 := by
  obtain ⟨bs, hb, ⟨_, rfl⟩ | ⟨elems, spare, rfl, hl⟩⟩ := top_bytes ht he hn hv h
  · exact ⟨[], hb, by simp⟩
  · have := bulk_slice hd
    exact ⟨bs, hb, by omega⟩
end Go.Proofs.Ytnddanaangolgaa.V
