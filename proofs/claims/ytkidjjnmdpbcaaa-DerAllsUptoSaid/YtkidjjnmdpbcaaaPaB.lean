/- Tags; an element's head. -/
import Derived.Test.YtkidjjnmdpbcaaaPaCD
set_option linter.unusedSimpArgs false
set_option linter.unusedVariables false
namespace Go.Proofs.Ytkidjjnmdpbcaaa.V
open Go.RowKit Go.ChangeShapes Go.WideShapes
abbrev tagP (t : Int) : Prop := 0 ≤ t ∧ t ≤ 255 ∧ t % 32 ≠ 31
theorem and31 {t : Int} (h0 : 0 ≤ t) (h1 : t ≤ 255) : IntKind.i64.wrap (BitVec.ofInt 64 t &&& BitVec.ofInt 64 31).toNat = t % 32 := by
  obtain ⟨n, rfl⟩ : ∃ n : Nat, t = n := ⟨t.toNat, by omega⟩
  have e1 : (BitVec.ofInt 64 (n : Int)).toNat = n := by simp; omega
  have e2 : (BitVec.ofInt 64 31).toNat = 2 ^ 5 - 1 := rfl
  rw [BitVec.toNat_and, e1, e2, Nat.and_two_pow_sub_one_eq_mod, wrap_i64 (by omega) (by omega)]
  omega
theorem isTag36 (t : Int) (G : GH) (h0 : -9223372036854775808 ≤ t) (h1 : t ≤ 9223372036854775807) : HC Try.prog 36 #[.int .i64 t] G fun v G' => v = .bool (decide (tagP t)) ∧ G' = G := by
  refine HC.start comp36 rfl ?_; unfold pc36
  (repeat' (first | (with_reducible refine i_ops ?_; first | (refine g_mv ?_; refine s_mv ?_) | refine o_nil ?_ | (refine g_some ?_; first | refine s_g_t ?_ | refine s_g_f ?_ | refine s_g_f' ?_ | refine s_g_u ?_) | (refine g_pick ?_; first | refine s_pick_t ?_ | refine s_pick_f ?_) | (refine g_len ?_; first | refine s_lenB ?_ | refine s_pure ?_) | (refine g_idx ?_; first | (refine s_idxOB ?_; intro p hp hpw) | (refine s_idxB ?_; intro p hp)) | (refine g_slc ?_; ((first | refine s_slcB ?_ | refine s_slcB01 ?_ | refine s_slcB10 ?_); intro us hus hbs)) | (refine g_pure ?_; first | refine s_pure ?_ | refine s_saddB ?_) | (refine g_hload ?_; refine s_hloadP ?_)) | (with_reducible refine i_vc ?_; first | refine v_seq ?_ | refine v_ops ?_ | (refine g_cond ?_; first | refine s_cond_t ?_ | refine s_cond_f ?_) | refine v_block ?_ | refine v_skip ?_ | refine v_exit ?_ | refine v_ret ?_ | refine s_drawl ?_ | refine v_draw0 ?_) | (with_reducible refine i_plan ?_; first | refine p_done ?_ | refine s_pre ?_ | refine s_preN ?_ | refine s_ag_t ?_ | refine s_ag_f ?_) | (with_reducible first | refine n_then ?_ | refine r_then ?_ | refine e_then ?_ | refine n_block ?_ | refine r_block ?_ | refine e_block_eq (by with_unfolding_all rfl) ?_ | refine e_block_ne (by with_unfolding_all rfl) ?_) | ((with_reducible first | refine s_g_c ?_ ?_ | refine s_cond_c ?_ ?_ | refine s_tg_c ?_ ?_ | refine s_ag_c ?_ ?_) <;> intro hb <;> rw [hb] <;> (try simp only [decide_eq_true_eq, decide_eq_false_iff_not, beq_iff_eq, bne_iff_ne, beq_eq_false_iff_ne, bne_eq_false_iff_eq, ne_eq, Int.not_lt, Int.not_le, gt_iff_lt, ge_iff_le, Bool.not_eq_true', Bool.not_eq_false'] at hb)) | ((with_reducible first | refine s_ret ?_ | refine s_normal ?_); try simp only [x_tup0, x_tup1, x_tup2, x_tup3, x_tup4, x_tup5, and_true, true_and])))
  · refine (congrArg (fun z => Value.bool (z != 31)) (and31 (by assumption) hb)).trans ?_
    exact congrArg _ (by rw [Bool.eq_iff_iff]; simp only [bne_iff_ne, decide_eq_true_eq]; omega)
  · exact congrArg _ (decide_eq_false (by omega)).symm
  · exact congrArg _ (decide_eq_false (by omega)).symm
theorem isTag38 (t : Int) (G : GH) (h0 : -9223372036854775808 ≤ t) (h1 : t ≤ 9223372036854775807) : HC Try.prog 38 #[.int .i64 t] G fun v G' => v = .bool (decide (tagP t)) ∧ G' = G := by
  refine HC.start comp38 rfl ?_; unfold pc38
  (repeat' (first | (with_reducible refine i_ops ?_; first | (refine g_mv ?_; refine s_mv ?_) | refine o_nil ?_ | (refine g_some ?_; first | refine s_g_t ?_ | refine s_g_f ?_ | refine s_g_f' ?_ | refine s_g_u ?_) | (refine g_pick ?_; first | refine s_pick_t ?_ | refine s_pick_f ?_) | (refine g_len ?_; first | refine s_lenB ?_ | refine s_pure ?_) | (refine g_idx ?_; first | (refine s_idxOB ?_; intro p hp hpw) | (refine s_idxB ?_; intro p hp)) | (refine g_slc ?_; ((first | refine s_slcB ?_ | refine s_slcB01 ?_ | refine s_slcB10 ?_); intro us hus hbs)) | (refine g_pure ?_; first | refine s_pure ?_ | refine s_saddB ?_) | (refine g_hload ?_; refine s_hloadP ?_)) | (with_reducible refine i_vc ?_; first | refine v_seq ?_ | refine v_ops ?_ | (refine g_cond ?_; first | refine s_cond_t ?_ | refine s_cond_f ?_) | refine v_block ?_ | refine v_skip ?_ | refine v_exit ?_ | refine v_ret ?_ | refine s_drawl ?_ | refine v_draw0 ?_) | (with_reducible refine i_plan ?_; first | refine p_done ?_ | refine s_pre ?_ | refine s_preN ?_ | refine s_ag_t ?_ | refine s_ag_f ?_) | (with_reducible first | refine n_then ?_ | refine r_then ?_ | refine e_then ?_ | refine n_block ?_ | refine r_block ?_ | refine e_block_eq (by with_unfolding_all rfl) ?_ | refine e_block_ne (by with_unfolding_all rfl) ?_) | ((with_reducible first | refine s_g_c ?_ ?_ | refine s_cond_c ?_ ?_ | refine s_tg_c ?_ ?_ | refine s_ag_c ?_ ?_) <;> intro hb <;> rw [hb] <;> (try simp only [decide_eq_true_eq, decide_eq_false_iff_not, beq_iff_eq, bne_iff_ne, beq_eq_false_iff_ne, bne_eq_false_iff_eq, ne_eq, Int.not_lt, Int.not_le, gt_iff_lt, ge_iff_le, Bool.not_eq_true', Bool.not_eq_false'] at hb)) | ((with_reducible first | refine s_ret ?_ | refine s_normal ?_); try simp only [x_tup0, x_tup1, x_tup2, x_tup3, x_tup4, x_tup5, and_true, true_and])))
  · exact congrArg _ (by rw [Bool.eq_iff_iff]; simp only [bne_iff_ne, decide_eq_true_eq]; omega)
  · exact congrArg _ (decide_eq_false (by omega)).symm
  · exact congrArg _ (decide_eq_false (by omega)).symm
/-- The number that bytes are, the greatest first. -/
def num (l : List UInt8) : Int := l.foldl (fun n x => 256 * n + x.toNat) 0
theorem num_snoc (l : List UInt8) (x : UInt8) : num (l ++ [x]) = 256 * num l + x.toNat := by simp [num]
theorem num_take {l : List UInt8} {i : Nat} (h : i < l.length) : num (l.take (i + 1)) = 256 * num (l.take i) + (l.getD i 0).toNat := by
  rw [List.take_succ_eq_append_getElem h, num_snoc, List.getD_eq_getElem?_getD, List.getElem?_eq_getElem h]; rfl
theorem num_nn (l : List UInt8) : ∀ i, i ≤ l.length → 0 ≤ num (l.take i) ∧ num (l.take i) < 256 ^ i
  | 0, _ => by simp [num]
  | i + 1, h => by
    have ih := num_nn l i (by omega)
    have hb := (l.getD i 0).toNat_lt
    rw [num_take (by omega), Int.pow_succ]
    omega
theorem shl8or {n x : Int} (h0 : 0 ≤ n) (h1 : n < 1099511627776) (h2 : 0 ≤ x) (h3 : x < 256) : IntKind.i64.wrap (BitVec.ofInt 64 (n * 256) ||| BitVec.ofInt 64 x).toNat = 256 * n + x := by
  obtain ⟨a, rfl⟩ : ∃ a : Nat, n = a := ⟨n.toNat, by omega⟩
  obtain ⟨b, rfl⟩ : ∃ b : Nat, x = b := ⟨x.toNat, by omega⟩
  have e1 : (BitVec.ofInt 64 ((a : Int) * 256)).toNat = 2 ^ 8 * a := by simp; omega
  have e2 : (BitVec.ofInt 64 (b : Int)).toNat = b := by simp; omega
  rw [BitVec.toNat_or, e1, e2, ← Nat.two_pow_add_eq_or_of_lt (by omega), wrap_i64 (by omega) (by omega)]
  omega
abbrev byt (bs : List UInt8) (i : Nat) : Int := ((bs.getD i 0).toNat : Int)
/-- What is wrong with a tag and a length. -/
def hdrE (bs : List UInt8) : Int :=
  if bs.length = 0 then 10 else if ¬ tagP (byt bs 0) then 11 else if bs.length = 1 then 10 else if byt bs 1 < 128 then 0
  else if byt bs 1 = 128 ∨ byt bs 1 > 131 ∨ (2 < bs.length ∧ byt bs 2 = 0) then 12 else if (bs.length : Int) < 2 + (byt bs 1 - 128) then 10
  else if num ((bs.drop 2).take (byt bs 1 - 128).toNat) < 128 then 12 else 0
def hdrF (bs : List UInt8) : Int := if byt bs 1 < 128 then 2 else 2 + (byt bs 1 - 128)
def hdrN (bs : List UInt8) : Int := if byt bs 1 < 128 then byt bs 1 else num ((bs.drop 2).take (byt bs 1 - 128).toNat)
set_option maxHeartbeats 4000000 in
theorem head40 (u : Value) (bs : List UInt8) (G : GH) (h : By G u bs) : HC Try.prog 40 #[u] G fun v G' => ((hdrE bs ≠ 0 ∧ v = .tuple #[.int .i64 0, .int .i64 0, .int .i64 0, .int .i64 (hdrE bs)]) ∨ (hdrE bs = 0 ∧ v = .tuple #[.int .i64 (byt bs 0), .int .i64 (hdrF bs), .int .i64 (hdrN bs), .int .i64 0])) ∧ G' = G := by
  have hl := By.len_le h
  have x0 := lt8 (bs.getD 0 0)
  have x1 := lt8 (bs.getD 1 0)
  refine HC.start comp40 rfl ?_; unfold pc40
  (repeat' (first | (with_reducible refine i_ops ?_; first | (refine g_mv ?_; refine s_mv ?_) | refine o_nil ?_ | (refine g_some ?_; first | refine s_g_t ?_ | refine s_g_f ?_ | refine s_g_f' ?_ | refine s_g_u ?_) | (refine g_pick ?_; first | refine s_pick_t ?_ | refine s_pick_f ?_) | (refine g_len ?_; first | refine s_lenB ?_ | refine s_pure ?_) | (refine g_idx ?_; first | (refine s_idxOB ?_; intro p hp hpw) | (refine s_idxB ?_; intro p hp)) | (refine g_slc ?_; ((first | refine s_slcB ?_ | refine s_slcB01 ?_ | refine s_slcB10 ?_); intro us hus hbs)) | (refine g_pure ?_; first | refine s_pure ?_ | refine s_saddB ?_) | (refine g_hload ?_; refine s_hloadP ?_) | refine o_callp (by with_unfolding_all rfl) (by first | exact isTag36 _ _ (by omega) (by omega)) ?_ | (refine o_callg (by with_unfolding_all rfl) (by first | exact isTag36 _ _ (by omega) (by omega)) ?_; intro G' hle)) | (with_reducible refine i_vc ?_; first | refine v_seq ?_ | refine v_ops ?_ | (refine g_cond ?_; first | refine s_cond_t ?_ | refine s_cond_f ?_) | refine v_block ?_ | refine v_skip ?_ | refine v_exit ?_ | refine v_ret ?_ | refine s_drawl ?_ | refine v_draw0 ?_) | (with_reducible refine i_plan ?_; first | refine p_done ?_ | refine s_pre ?_ | refine s_preN ?_ | refine s_ag_t ?_ | refine s_ag_f ?_) | (with_reducible first | refine n_then ?_ | refine r_then ?_ | refine e_then ?_ | refine n_block ?_ | refine r_block ?_ | refine e_block_eq (by with_unfolding_all rfl) ?_ | refine e_block_ne (by with_unfolding_all rfl) ?_) | ((with_reducible first | refine s_g_c ?_ ?_ | refine s_cond_c ?_ ?_ | refine s_tg_c ?_ ?_ | refine s_ag_c ?_ ?_) <;> intro hb <;> rw [hb] <;> (try simp only [decide_eq_true_eq, decide_eq_false_iff_not, beq_iff_eq, bne_iff_ne, beq_eq_false_iff_ne, bne_eq_false_iff_eq, ne_eq, Int.not_lt, Int.not_le, gt_iff_lt, ge_iff_le, Bool.not_eq_true', Bool.not_eq_false'] at hb)) | ((with_reducible first | refine s_ret ?_ | refine s_normal ?_); try simp only [x_tup0, x_tup1, x_tup2, x_tup3, x_tup4, x_tup5, and_true, true_and])))
  all_goals first
    | (exfalso; omega)
    | (apply Or.inl
       have e : hdrE bs = 10 := by unfold hdrE byt; (repeat' split) <;> omega
       exact ⟨by omega, by rw [e]⟩)
    | (apply Or.inl
       have e : hdrE bs = 11 := by unfold hdrE byt; (repeat' split) <;> omega
       exact ⟨by omega, by rw [e]⟩)
    | (apply Or.inl
       have e : hdrE bs = 12 := by unfold hdrE byt; (repeat' split) <;> omega
       exact ⟨by omega, by rw [e]⟩)
    | (apply Or.inr
       have e : hdrE bs = 0 := by unfold hdrE byt; (repeat' split) <;> omega
       refine ⟨e, ?_⟩
       unfold hdrF hdrN byt
       rw [if_pos (by omega), if_pos (by omega)])
    | skip
  have hge : 2 + (((bs.getD 1 0).toNat : Int) - 128) ≤ bs.length := hb
  obtain ⟨w, hw⟩ : ∃ w, List.take ((2 + (((bs.getD 1 0).toNat : Int) - 128)).toNat - Int.toNat 2) (List.drop (Int.toNat 2) bs) = w := ⟨_, rfl⟩
  rw [hw] at hus ⊢
  have hw2 : w = (bs.drop 2).take (byt bs 1 - 128).toNat := by
    rw [← hw]; congr 1; simp only [Int.reduceToNat, byt]; omega
  have hwl : (w.length : Int) = byt bs 1 - 128 := by
    rw [hw2, List.length_take, List.length_drop]; simp only [byt]; omega
  simp only [byt] at hwl
  have pm (i : Nat) (hi : i ≤ w.length) : (256 : Int) ^ i ≤ 16777216 := by
    have : i ≤ 3 := by omega
    rcases i with _ | _ | _ | _ | k <;> first | decide | omega
  refine v_loopX (α := Nat) (fun i => i ≤ w.length) (fun i => [(0, u), (6, .int .i64 (((bs.getD 1 0).toNat : Int) - 128)), (4, .int .i64 (num (w.take i))), (67, us), (68, .int .i64 w.length), (69, .int .i64 i)]) (fun _ => []) (fun _ => G) (fun i => w.length - i) 0
    (Nat.zero_le _) (by refine ⟨SL.get_fn (by with_unfolding_all rfl), SL.get_fn (by with_unfolding_all rfl), SL.get_fn (by with_unfolding_all rfl), SL.get_fn (by with_unfolding_all rfl), SL.get_fn (by with_unfolding_all rfl), SL.get_fn (by with_unfolding_all rfl), trivial⟩) trivial rfl ?_
  rintro i s ll k1
  dsimp only [SL.sets, AL.sets]
  have nn := num_nn w i k1
  have pi := pm i k1
  have xi := lt8 (w.getD i 0)
  (repeat' (first | (with_reducible refine i_ops ?_; first | (refine g_mv ?_; refine s_mv ?_) | refine o_nil ?_ | (refine g_some ?_; first | refine s_g_t ?_ | refine s_g_f ?_ | refine s_g_f' ?_ | refine s_g_u ?_) | (refine g_pick ?_; first | refine s_pick_t ?_ | refine s_pick_f ?_) | (refine g_len ?_; first | refine s_lenB ?_ | refine s_pure ?_) | (refine g_idx ?_; first | (refine s_idxOB ?_; intro p hp hpw) | (refine s_idxB ?_; intro p hp)) | (refine g_slc ?_; ((first | refine s_slcB ?_ | refine s_slcB01 ?_ | refine s_slcB10 ?_); intro us hus hbs)) | (refine g_pure ?_; first | refine s_pure ?_ | refine s_saddB ?_) | (refine g_hload ?_; refine s_hloadP ?_)) | (with_reducible refine i_vc ?_; first | refine v_seq ?_ | refine v_ops ?_ | (refine g_cond ?_; first | refine s_cond_t ?_ | refine s_cond_f ?_) | refine v_block ?_ | refine v_skip ?_ | refine v_exit ?_ | refine v_ret ?_ | refine s_drawl ?_ | refine v_draw0 ?_) | (with_reducible refine i_plan ?_; first | refine p_done ?_ | refine s_pre ?_ | refine s_preN ?_ | refine s_ag_t ?_ | refine s_ag_f ?_) | (with_reducible first | refine n_then ?_ | refine r_then ?_ | refine e_then ?_ | refine n_block ?_ | refine r_block ?_ | refine e_block_eq (by with_unfolding_all rfl) ?_ | refine e_block_ne (by with_unfolding_all rfl) ?_) | ((with_reducible first | refine s_g_c ?_ ?_ | refine s_cond_c ?_ ?_ | refine s_tg_c ?_ ?_ | refine s_ag_c ?_ ?_) <;> intro hb <;> rw [hb] <;> (try simp only [decide_eq_true_eq, decide_eq_false_iff_not, beq_iff_eq, bne_iff_ne, beq_eq_false_iff_ne, bne_eq_false_iff_eq, ne_eq, Int.not_lt, Int.not_le, gt_iff_lt, ge_iff_le, Bool.not_eq_true', Bool.not_eq_false'] at hb)) | ((with_reducible first | refine s_ret ?_ | refine s_normal ?_); try simp only [x_tup0, x_tup1, x_tup2, x_tup3, x_tup4, x_tup5, and_true, true_and])))
  · have hi : i < w.length := by omega
    refine ⟨w.length - (i + 1), by omega, i + 1, rfl, hi, ?_, trivial, rfl⟩
    exact ⟨SL.get_fn (by with_unfolding_all rfl), SL.get_fn (by with_unfolding_all rfl), (SL.get_fn (by with_unfolding_all rfl)).trans (congrArg (Value.int .i64) ((shl8or (by omega) (by omega) (by omega) xi).trans (num_take hi).symm)), SL.get_fn (by with_unfolding_all rfl), SL.get_fn (by with_unfolding_all rfl), SL.get_fn (by with_unfolding_all rfl), trivial⟩
  · have hi : i = w.length := by omega
    subst hi
    rw [List.take_length] at *
    have e : hdrE bs = 12 := by unfold hdrE byt; rw [← hw2]; (repeat' split) <;> omega
    exact .inl ⟨by omega, by rw [e]⟩
  · have hi : i = w.length := by omega
    subst hi
    rw [List.take_length] at *
    have e : hdrE bs = 0 := by unfold hdrE byt; rw [← hw2]; (repeat' split) <;> omega
    refine .inr ⟨e, ?_⟩
    unfold hdrF hdrN byt
    rw [if_neg (by omega), if_neg (by omega), ← hw2]
end Go.Proofs.Ytkidjjnmdpbcaaa.V
