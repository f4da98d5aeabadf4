/- A slip that is right; a sum that is known; the spoilt slip, plain. -/
import Derived.Test.YtnddanaangolgaaPtL
set_option linter.unusedSimpArgs false
set_option linter.unusedVariables false
namespace Go.Proofs.Ytnddanaangolgaa.V
open Go.RowKit Go.ChangeShapes Go.WideShapes
theorem sum_abc : sumB [97, 98, 99] = 891568578#32 := by decide +kernel
theorem sum_nil : sumB [] = 0#32 := by decide +kernel
theorem works11 (G : GH) : HC Try.prog 11 #[] G fun v G' => v = .bool true ∧ G.le G' := by
  refine HC.start comp11 rfl ?_; unfold pc11
  (repeat' (first | (with_reducible refine i_ops ?_; first | (refine g_mv ?_; refine s_mv ?_) | refine o_nil ?_ | (refine g_some ?_; first | refine s_g_t ?_ | refine s_g_f ?_ | refine s_g_f' ?_ | refine s_g_u ?_) | (refine g_pick ?_; first | refine s_pick_t ?_ | refine s_pick_f ?_) | (refine g_len ?_; first | refine s_lenB ?_ | refine s_pure ?_) | (refine g_slc ?_; ((first | refine s_slcB ?_ | refine s_slcB01 ?_ | refine s_slcB10 ?_); intro us hus hbs)) | (refine g_build ?_; first | refine s_build ?_ | refine s_buildP ?_) | (refine g_pure ?_; first | refine s_pure ?_ | refine s_saddB ?_) | (refine g_lfield ?_; refine s_lfield ?_) | (refine g_lload ?_; refine s_lload ?_) | (refine g_lstore ?_; first | refine s_lstoreA ?_ | refine s_lstore ?_) | (refine g_lalloc ?_; refine s_lalloc ?_) | (refine g_lbox ?_; refine s_lbox ?_)) | (with_reducible refine i_vc ?_; first | refine v_seq ?_ | refine v_ops ?_ | (refine g_cond ?_; first | refine s_cond_t ?_ | refine s_cond_f ?_) | refine v_skip ?_ | refine v_ret ?_ | refine s_drawl ?_ | refine v_draw0 ?_) | (with_reducible refine i_plan ?_; first | refine p_done ?_ | refine s_pre ?_ | refine s_preN ?_ | refine s_ag_t ?_ | refine s_ag_f ?_ | refine s_alt ?_ | refine p_alt ?_ ?_) | (with_reducible first | refine n_then ?_ | refine r_then ?_ | refine e_then ?_ | (refine g_stand ?_; first | refine s_stand ?_ | refine s_standL ?_)) | ((with_reducible first | refine s_g_c ?_ ?_ | refine s_cond_c ?_ ?_ | refine s_tg_c ?_ ?_ | refine s_ag_c ?_ ?_) <;> intro hb <;> rw [hb] <;> (try simp only [decide_eq_true_eq, decide_eq_false_iff_not, beq_iff_eq, bne_iff_ne, beq_eq_false_iff_ne, bne_eq_false_iff_eq, ne_eq, Int.not_lt, Int.not_le, gt_iff_lt, ge_iff_le, Bool.not_eq_true', Bool.not_eq_false'] at hb)) | ((with_reducible first | refine s_ret ?_ | refine s_normal ?_); try simp only [x_tup0, x_tup1, x_tup2, x_tup3, x_tup4, x_tup5, and_true, true_and])))
  refine o_bslice (cs := #[bv 97, bv 98, bv 99]) (by with_unfolding_all rfl) rfl ?_
  intro b hb
  refine o_markb (by with_unfolding_all rfl) (GH.put_same _ _ _) ?_
  have hle : G.le ((G.put b (.cells #[bv 97, bv 98, bv 99] 5)).put b (.cells #[bv 97, bv 98, bv 99] 5 (3, 4))) := GH.le_put_of _ (GH.le_put _ hb) hb
  have hB : By ((G.put b (.cells #[bv 97, bv 98, bv 99] 5)).put b (.cells #[bv 97, bv 98, bv 99] 5 (3, 4))) (.slice (some ⟨b, 0, none⟩) 3 3) [97, 98, 99] := by
    refine ⟨?_, by simp [okS]⟩
    rw [rd_of (GH.put_same _ _ _) (by decide)]; rfl
  generalize (G.put b _).put b _ = G1 at *
  refine o_bsliceO (by with_unfolding_all rfl) rfl rfl rfl rfl rfl ?_
  intro u3 G3 hle3 ho3 hu3
  (repeat' (first | (with_reducible refine i_ops ?_; first | (refine g_mv ?_; refine s_mv ?_) | refine o_nil ?_ | (refine g_some ?_; first | refine s_g_t ?_ | refine s_g_f ?_ | refine s_g_f' ?_ | refine s_g_u ?_) | (refine g_pick ?_; first | refine s_pick_t ?_ | refine s_pick_f ?_) | (refine g_len ?_; first | refine s_lenB ?_ | refine s_pure ?_) | (refine g_slc ?_; ((first | refine s_slcB ?_ | refine s_slcB01 ?_ | refine s_slcB10 ?_); intro us hus hbs)) | (refine g_build ?_; first | refine s_build ?_ | refine s_buildP ?_) | (refine g_pure ?_; first | refine s_pure ?_ | refine s_saddB ?_) | (refine g_lfield ?_; refine s_lfield ?_) | (refine g_lload ?_; refine s_lload ?_) | (refine g_lstore ?_; first | refine s_lstoreA ?_ | refine s_lstore ?_) | (refine g_lalloc ?_; refine s_lalloc ?_) | (refine g_lbox ?_; refine s_lbox ?_)) | (with_reducible refine i_vc ?_; first | refine v_seq ?_ | refine v_ops ?_ | (refine g_cond ?_; first | refine s_cond_t ?_ | refine s_cond_f ?_) | refine v_skip ?_ | refine v_ret ?_ | refine s_drawl ?_ | refine v_draw0 ?_) | (with_reducible refine i_plan ?_; first | refine p_done ?_ | refine s_pre ?_ | refine s_preN ?_ | refine s_ag_t ?_ | refine s_ag_f ?_ | refine s_alt ?_ | refine p_alt ?_ ?_) | (with_reducible first | refine n_then ?_ | refine r_then ?_ | refine e_then ?_ | (refine g_stand ?_; first | refine s_stand ?_ | refine s_standL ?_)) | ((with_reducible first | refine s_g_c ?_ ?_ | refine s_cond_c ?_ ?_ | refine s_tg_c ?_ ?_ | refine s_ag_c ?_ ?_) <;> intro hb <;> rw [hb] <;> (try simp only [decide_eq_true_eq, decide_eq_false_iff_not, beq_iff_eq, bne_iff_ne, beq_eq_false_iff_ne, bne_eq_false_iff_eq, ne_eq, Int.not_lt, Int.not_le, gt_iff_lt, ge_iff_le, Bool.not_eq_true', Bool.not_eq_false'] at hb)) | ((with_reducible first | refine s_ret ?_ | refine s_normal ?_); try simp only [x_tup0, x_tup1, x_tup2, x_tup3, x_tup4, x_tup5, and_true, true_and])))
  refine o_callp (by with_unfolding_all rfl) (sum10 u3 _ [[97, 98, 99]] G3 (one_part ho3.sl (hB.le hle3))) ?_
  have e1 : sumB [[97, 98, 99]].flatten = 891568578#32 := sum_abc
  rw [e1]
  (repeat' (first | (with_reducible refine i_ops ?_; first | (refine g_mv ?_; refine s_mv ?_) | refine o_nil ?_ | (refine g_some ?_; first | refine s_g_t ?_ | refine s_g_f ?_ | refine s_g_f' ?_ | refine s_g_u ?_) | (refine g_pick ?_; first | refine s_pick_t ?_ | refine s_pick_f ?_) | (refine g_len ?_; first | refine s_lenB ?_ | refine s_pure ?_) | (refine g_slc ?_; ((first | refine s_slcB ?_ | refine s_slcB01 ?_ | refine s_slcB10 ?_); intro us hus hbs)) | (refine g_build ?_; first | refine s_build ?_ | refine s_buildP ?_) | (refine g_pure ?_; first | refine s_pure ?_ | refine s_saddB ?_) | (refine g_lfield ?_; refine s_lfield ?_) | (refine g_lload ?_; refine s_lload ?_) | (refine g_lstore ?_; first | refine s_lstoreA ?_ | refine s_lstore ?_) | (refine g_lalloc ?_; refine s_lalloc ?_) | (refine g_lbox ?_; refine s_lbox ?_)) | (with_reducible refine i_vc ?_; first | refine v_seq ?_ | refine v_ops ?_ | (refine g_cond ?_; first | refine s_cond_t ?_ | refine s_cond_f ?_) | refine v_skip ?_ | refine v_ret ?_ | refine s_drawl ?_ | refine v_draw0 ?_) | (with_reducible refine i_plan ?_; first | refine p_done ?_ | refine s_pre ?_ | refine s_preN ?_ | refine s_ag_t ?_ | refine s_ag_f ?_ | refine s_alt ?_ | refine p_alt ?_ ?_) | (with_reducible first | refine n_then ?_ | refine r_then ?_ | refine e_then ?_ | (refine g_stand ?_; first | refine s_stand ?_ | refine s_standL ?_)) | ((with_reducible first | refine s_g_c ?_ ?_ | refine s_cond_c ?_ ?_ | refine s_tg_c ?_ ?_ | refine s_ag_c ?_ ?_) <;> intro hb <;> rw [hb] <;> (try simp only [decide_eq_true_eq, decide_eq_false_iff_not, beq_iff_eq, bne_iff_ne, beq_eq_false_iff_ne, bne_eq_false_iff_eq, ne_eq, Int.not_lt, Int.not_le, gt_iff_lt, ge_iff_le, Bool.not_eq_true', Bool.not_eq_false'] at hb)) | ((with_reducible first | refine s_ret ?_ | refine s_normal ?_); try simp only [x_tup0, x_tup1, x_tup2, x_tup3, x_tup4, x_tup5, and_true, true_and])))
  have hn : Parts G3 (.slice none 0 0) [] [] := ⟨Sl.nil 1 _, rfl, fun i hi => by simp at hi⟩
  refine o_callp (by with_unfolding_all rfl) (sum10 (.slice none 0 0) [] [] G3 hn) ?_
  have e2 : sumB ([] : List (List UInt8)).flatten = 0#32 := sum_nil
  rw [e2]
  (repeat' (first | (with_reducible refine i_ops ?_; first | (refine g_mv ?_; refine s_mv ?_) | refine o_nil ?_ | (refine g_some ?_; first | refine s_g_t ?_ | refine s_g_f ?_ | refine s_g_f' ?_ | refine s_g_u ?_) | (refine g_pick ?_; first | refine s_pick_t ?_ | refine s_pick_f ?_) | (refine g_len ?_; first | refine s_lenB ?_ | refine s_pure ?_) | (refine g_slc ?_; ((first | refine s_slcB ?_ | refine s_slcB01 ?_ | refine s_slcB10 ?_); intro us hus hbs)) | (refine g_build ?_; first | refine s_build ?_ | refine s_buildP ?_) | (refine g_pure ?_; first | refine s_pure ?_ | refine s_saddB ?_) | (refine g_lfield ?_; refine s_lfield ?_) | (refine g_lload ?_; refine s_lload ?_) | (refine g_lstore ?_; first | refine s_lstoreA ?_ | refine s_lstore ?_) | (refine g_lalloc ?_; refine s_lalloc ?_) | (refine g_lbox ?_; refine s_lbox ?_)) | (with_reducible refine i_vc ?_; first | refine v_seq ?_ | refine v_ops ?_ | (refine g_cond ?_; first | refine s_cond_t ?_ | refine s_cond_f ?_) | refine v_skip ?_ | refine v_ret ?_ | refine s_drawl ?_ | refine v_draw0 ?_) | (with_reducible refine i_plan ?_; first | refine p_done ?_ | refine s_pre ?_ | refine s_preN ?_ | refine s_ag_t ?_ | refine s_ag_f ?_ | refine s_alt ?_ | refine p_alt ?_ ?_) | (with_reducible first | refine n_then ?_ | refine r_then ?_ | refine e_then ?_ | (refine g_stand ?_; first | refine s_stand ?_ | refine s_standL ?_)) | ((with_reducible first | refine s_g_c ?_ ?_ | refine s_cond_c ?_ ?_ | refine s_tg_c ?_ ?_ | refine s_ag_c ?_ ?_) <;> intro hb <;> rw [hb] <;> (try simp only [decide_eq_true_eq, decide_eq_false_iff_not, beq_iff_eq, bne_iff_ne, beq_eq_false_iff_ne, bne_eq_false_iff_eq, ne_eq, Int.not_lt, Int.not_le, gt_iff_lt, ge_iff_le, Bool.not_eq_true', Bool.not_eq_false'] at hb)) | ((with_reducible first | refine s_ret ?_ | refine s_normal ?_); try simp only [x_tup0, x_tup1, x_tup2, x_tup3, x_tup4, x_tup5, and_true, true_and])))
  · exact ⟨rfl, GH.le_trans hle hle3⟩
  · exact absurd rfl hb
/-! ### The spoilt slip: plain -/
def gS (f : Nat) (M : BitVec 32) (p : Nat) : Bool := decide (f ≤ p) && M.getLsbD (p - f) && !(p / 8 == 1) && !(p / 8 == 2)
def Sp (b cur : List UInt8) (f : Nat) (M : BitVec 32) (i : Nat) : Prop := cur.length = b.length ∧ ∀ p, bitat cur p = (bitat b p ^^ (gS f M p && decide (p < f + i)))
theorem Sp.zero (b : List UInt8) (f : Nat) (M : BitVec 32) : Sp b b f M 0 := by
  refine ⟨rfl, fun p => ?_⟩
  unfold gS
  by_cases h : f ≤ p
  · have : ¬ p < f := by omega
    simp [this]
  · simp [h]
theorem Sp.skip {b cur : List UInt8} {f : Nat} {M : BitVec 32} {i : Nat} (h : Sp b cur f M i) (hg : gS f M (f + i) = false) : Sp b cur f M (i + 1) := by
  refine ⟨h.1, fun p => ?_⟩
  rw [h.2 p]
  by_cases hp : p = f + i
  · rw [hp, hg]; simp
  · congr 2
    have : (p < f + i) ↔ (p < f + (i + 1)) := by omega
    simp [this]
theorem gS_high {f : Nat} {M : BitVec 32} {p : Nat} (h : f + 32 ≤ p) : gS f M p = false := by
  unfold gS; rw [BitVec.getLsbD_of_ge _ _ (by omega)]; simp
theorem Sp.fin {b cur : List UInt8} {f : Nat} {M : BitVec 32} {i : Nat} (h : Sp b cur f M i) (hi : 32 ≤ i ∨ 8 * b.length ≤ f + i) : ∀ p, p < 8 * b.length → bitat cur p = (bitat b p ^^ gS f M p) := by
  intro p hp
  rw [h.2 p]
  congr 1
  by_cases h1 : p < f + i
  · simp [h1]
  · rw [gS_high (by omega)]; simp
theorem slip_pre_len (k : Int) (d : List UInt8) : (preB k d).length = 3 + d.length := by unfold preB; simp; omega
theorem slip_len (k : Int) (d : List UInt8) : (slipB k d).length = 7 + d.length := by unfold slipB; rw [List.length_append, slip_pre_len, leB_len]; omega
theorem slip_n (k : Int) (d : List UInt8) (h : d.length ≤ 65535) : slN (slipB k d) = d.length := by
  unfold slN slipB preB
  show (UInt8.ofInt ((d.length : Int) % 256)).toNat + 256 * (UInt8.ofInt ((d.length : Int) / 256)).toNat = d.length
  rw [show ((d.length : Int) % 256) = ((d.length % 256 : Nat) : Int) by omega, show ((d.length : Int) / 256) = ((d.length / 256 : Nat) : Int) by omega, ofInt_nat, ofInt_nat, UInt8.toNat_ofNat', UInt8.toNat_ofNat']
  omega
theorem slip_take (k : Int) (d : List UInt8) : (slipB k d).take (3 + d.length) = preB k d := by
  unfold slipB; rw [List.take_append_of_le_length (by rw [slip_pre_len]; omega), List.take_of_length_le (by rw [slip_pre_len]; omega)]
theorem slip_drop (k : Int) (d : List UInt8) : (slipB k d).drop (3 + d.length) = leB (sumB (preB k d)) 4 := by
  unfold slipB; rw [← slip_pre_len k d, List.drop_left]
theorem slip_E (k : Int) (d : List UInt8) (h : d.length ≤ 65535) : slE (slipB k d) = 0 := by
  unfold slE
  rw [slip_n k d h, slip_len, if_neg (by omega), if_neg (by omega), slip_take, slip_drop, List.take_of_length_le (by rw [leB_len]; omega), if_neg (by simp)]
theorem slip_D (k : Int) (d : List UInt8) (h : d.length ≤ 65535) : slD (slipB k d) = d := by
  unfold slD
  rw [slip_n k d h]
  show ((d ++ leB (sumB (preB k d)) 4).take d.length) = d
  rw [List.take_append_of_le_length (Nat.le_refl _), List.take_length]
theorem slip_K (k : Int) (d : List UInt8) (h0 : 0 ≤ k) (h1 : k ≤ 255) : byt (slipB k d) 0 = k := by
  show (((UInt8.ofInt k).toNat : Nat) : Int) = k
  obtain ⟨n, rfl⟩ : ∃ n : Nat, k = n := ⟨k.toNat, by omega⟩
  rw [ofInt_nat, UInt8.toNat_ofNat']; omega
end Go.Proofs.Ytnddanaangolgaa.V
