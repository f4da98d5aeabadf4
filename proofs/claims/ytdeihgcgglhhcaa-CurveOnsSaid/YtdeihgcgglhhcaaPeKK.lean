/- The document's products. -/
import Derived.Test.YtdeihgcgglhhcaaPeKJ
set_option linter.unusedSimpArgs false
set_option linter.unusedVariables false
set_option maxRecDepth 20000
-- @nums
-- @extra s_iptrA s_iptrAc s_nilck s_fptr0 s_eqN s_naddc s_nadd s_nsubL s_nsubc s_wadd s_wsub s_waddL s_wsubL s_wquoc s_wremc s_wmul
-- @pre g_lload s_lloadV s_lloadVc s_lloadW
-- @pre g_lstore s_lstoreV s_lstoreVc s_lstoreW
-- @pre g_lbox s_lboxW
namespace Go.Proofs.Ytdeihgcgglhhcaa.V
open Go.RowKit Go.ChangeShapes Go.WideShapes
theorem mul32 {x m r c : Nat} (hx : x < 4294967296) (hm : m < 4294967296) (hr : r < 4294967296) (hc : c < 4294967296) : r + x * m + c < 18446744073709551616 := by
  have h1 : x * m ≤ 4294967295 * 4294967295 := Nat.mul_le_mul (by omega) (by omega)
  omega
theorem kNext {B k u i : Nat} (hk : k < B ^ i) (hu : u < B) : k + u * B ^ i < B ^ (i + 1) := by
  have h1 : (u + 1) * B ^ i ≤ B * B ^ i := Nat.mul_le_mul_right _ (by omega)
  rw [Nat.pow_succ, Nat.mul_comm _ B]
  rw [Nat.add_mul, Nat.one_mul] at h1
  omega
/-- A row moved down by one place, step by step. -/
theorem down_step {B : Nat} {o q m : List Nat} {j c u z d : Nat} (h : B * val B (o.take j) + B ^ (j + 1) * c = val B (q.take (j + 1)) + val B (m.take (j + 1)) * u) (hj : j < o.length) (hz : z + B * d = q.getD (j + 1) 0 + m.getD (j + 1) 0 * u + c) :
    B * val B ((o.set j z).take (j + 1)) + B ^ (j + 1 + 1) * d = val B (q.take (j + 1 + 1)) + val B (m.take (j + 1 + 1)) * u := by
  rw [val_set_take B o hj, val_take_succ B q, val_take_succ B m, Nat.add_mul]
  have e1 : B ^ (j + 1 + 1) * d = B ^ (j + 1) * (B * d) := by rw [Nat.pow_succ B (j + 1), Nat.mul_assoc]
  have e2 : B * (val B (o.take j) + B ^ j * z) = B * val B (o.take j) + B ^ (j + 1) * z := by
    rw [Nat.mul_add, Nat.pow_succ, ← Nat.mul_assoc, Nat.mul_comm B (B ^ j)]
  have e3 : B ^ (j + 1) * z + B ^ (j + 1) * (B * d) = B ^ (j + 1) * q.getD (j + 1) 0 + B ^ (j + 1) * m.getD (j + 1) 0 * u + B ^ (j + 1) * c := by
    rw [← Nat.mul_add, hz, Nat.mul_add, Nat.mul_add, Nat.mul_assoc]
  rw [e1, e2]
  omega
theorem down_zero {B : Nat} {q m : List Nat} {u d : Nat} (h : B * d = q.getD 0 0 + m.getD 0 0 * u) : B * val B ((q.take 0)) + B ^ (0 + 1) * d = val B (q.take (0 + 1)) + val B (m.take (0 + 1)) * u := by
  rw [val_take_succ B q, val_take_succ B m]
  simp only [List.take_zero, val, Nat.mul_zero, Nat.pow_zero, Nat.zero_add, Nat.pow_one, Nat.one_mul]
  exact h
theorem down_end {B : Nat} {o q m : List Nat} {n c u : Nat} (h : B * val B (o.take n) + B ^ (n + 1) * c = val B (q.take (n + 1)) + val B (m.take (n + 1)) * u) (hn : n + 1 < o.length) {z d y : Nat} (hz : z + B * d = q.getD (n + 1) 0 + c) :
    val B (((o.set n z).set (n + 1) (y + d)).take (n + 2)) * B = val B (q.take (n + 1)) + B ^ (n + 1) * q.getD (n + 1) 0 + B ^ (n + 2) * y + val B (m.take (n + 1)) * u := by
  rw [val_set_take B (o.set n z) (by simpa using hn), val_set_take B o (by omega)]
  have e1 : B ^ (n + 2) * y = B ^ (n + 1) * (B * y) := by rw [Nat.pow_succ B (n + 1), Nat.mul_assoc]
  have e2 : (val B (o.take n) + B ^ n * z + B ^ (n + 1) * (y + d)) * B = B * val B (o.take n) + B ^ (n + 1) * z + B ^ (n + 1) * (B * y) + B ^ (n + 1) * (B * d) := by
    rw [Nat.add_mul, Nat.add_mul, Nat.mul_add, Nat.add_mul, Nat.mul_comm _ B, Nat.mul_assoc (B ^ (n + 1)) y, Nat.mul_assoc (B ^ (n + 1)) d, Nat.mul_comm y B, Nat.mul_comm d B, Nat.pow_succ B n, Nat.mul_assoc (B ^ n) z, Nat.mul_comm z B, ← Nat.mul_assoc (B ^ n) B z]
    omega
  have e3 : B ^ (n + 1) * z + B ^ (n + 1) * (B * d) = B ^ (n + 1) * q.getD (n + 1) 0 + B ^ (n + 1) * c := by rw [← Nat.mul_add, hz, Nat.mul_add]
  rw [e1, e2]
  omega
theorem mulR (b x y : Nat) (G : GH) (hf : FO G b) (hx : x < 115792089237316195423570985008687907853269984665640564039457584007913129639936) (hy : y < 115792089237316195423570985008687907853269984665640564039457584007913129639936) (hxy : x * y < 115792089237316195423570985008687907853269984665640564039457584007913129639936 * p256) : HC Try.prog 40 #[.pointer (some ⟨b, 0, none⟩), fw x, fw y] G fun v G' => v = fw (mM x y) ∧ G' = G := by
  have hp : p256 = 115792089210356248762697446949407573530086143415290314195533631308867097853951 := rfl
  have l1 := fd_len 4294967296 8 x
  have l2 := fd_len 4294967296 8 y
  have l3 := fd_len 4294967296 8 p256
  refine HC.start comp40 rfl ?_; unfold pc40
  (repeat' (first | (with_reducible refine i_ops ?_; first | (refine g_mv ?_; refine s_mv ?_) | refine o_nil ?_ | (refine g_some ?_; first | refine s_g_t ?_ | refine s_g_f ?_ | refine s_g_f' ?_ | refine s_g_u ?_) | (refine g_pick ?_; first | refine s_pick_t ?_ | refine s_pick_f ?_) | (refine g_pure ?_; first | refine s_iptrA ?_ | refine s_iptrAc ?_ | refine s_nilck ?_ | refine s_fptr0 ?_ | refine s_eqN ?_ | refine s_naddc ?_ | refine s_nadd ?_ | refine s_nsubL ?_ | refine s_nsubc ?_ | refine s_wadd ?_ | refine s_wsub ?_ | refine s_waddL ?_ | refine s_wsubL ?_ | refine s_wquoc ?_ | refine s_wremc ?_ | refine s_wmul ?_ | refine s_pure ?_ | refine s_saddB ?_) | (refine g_lload ?_; first | refine s_lloadV ?_ | refine s_lloadVc ?_ | refine s_lloadW ?_ | refine s_lload ?_) | (refine g_lstore ?_; first | refine s_lstoreV ?_ | refine s_lstoreVc ?_ | refine s_lstoreW ?_ | refine s_lstoreA ?_ | refine s_lstore ?_) | (refine g_lindex ?_; refine s_lindex ?_) | (refine g_lalloc ?_; refine s_lalloc ?_) | (refine g_lbox ?_; first | refine s_lboxW ?_ | refine s_lbox ?_) | (refine g_hload ?_; refine s_hloadP ?_)) | (with_reducible refine i_vc ?_; first | refine v_seq ?_ | refine v_ops ?_ | (refine g_cond ?_; first | refine s_cond_t ?_ | refine s_cond_f ?_) | refine v_block ?_ | refine v_skip ?_ | refine v_exit ?_ | refine v_ret ?_ | refine s_drawl ?_ | refine v_draw0 ?_) | (with_reducible refine i_plan ?_; first | refine p_done ?_ | refine s_pre ?_ | refine s_preN ?_ | refine s_ag_t ?_ | refine s_ag_f ?_ | refine s_alt ?_ | refine p_alt ?_ ?_) | (with_reducible first | refine n_then ?_ | refine r_then ?_ | refine e_then ?_ | refine n_block ?_ | refine r_block ?_ | refine e_block_eq (by with_unfolding_all rfl) ?_ | refine e_block_ne (by with_unfolding_all rfl) ?_ | (refine g_stand ?_; first | refine s_stand ?_ | refine s_standL ?_)) | ((with_reducible first | refine s_g_c ?_ ?_ | refine s_cond_c ?_ ?_ | refine s_tg_c ?_ ?_ | refine s_ag_c ?_ ?_) <;> intro hb <;> rw [hb] <;> (try simp only [decide_eq_true_eq, decide_eq_false_iff_not, beq_iff_eq, bne_iff_ne, beq_eq_false_iff_ne, bne_eq_false_iff_eq, ne_eq, Int.not_lt, Int.not_le, gt_iff_lt, ge_iff_le, Bool.not_eq_true', Bool.not_eq_false'] at hb)) | ((with_reducible first | refine s_ret ?_ | refine s_normal ?_); try simp only [x_tup0, x_tup1, x_tup2, x_tup3, x_tup4, x_tup5, and_true, true_and])))
  refine v_loopX (α := Nat × List Nat × Nat) (fun z => z.1 ≤ 8 ∧ z.2.1.length = 10 ∧ Dl 4294967296 z.2.1 ∧ val 4294967296 (z.2.1.take 9) * 4294967296 ^ z.1 = x * val 4294967296 ((fd 4294967296 8 y).take z.1) + z.2.2 * p256 ∧ val 4294967296 (z.2.1.take 9) < x + p256 ∧ z.2.2 < 4294967296 ^ z.1)
    (fun z => [(0, .pointer (some ⟨b, 0, none⟩)), (4, .int .u64 0), (5, .int .u64 0), (6, .int .u64 0), (7, .int .u64 0), (8, iv .i64 z.1)]) (fun z => [(4, na (fd 4294967296 8 x)), (5, na (fd 4294967296 8 y)), (6, na [0, 0, 0, 0, 0, 0, 0, 0]), (7, na z.2.1)]) (fun _ => G) (fun z => 8 - z.1) (0, List.replicate 10 0, 0)
    ⟨Nat.zero_le _, by simp, Dl.rep _ (by decide), by rw [List.take_replicate, val_rep]; simp [val], by rw [List.take_replicate, val_rep]; omega, by simp⟩ (by refine ⟨SL.get_fn (by with_unfolding_all rfl), SL.get_fn (by with_unfolding_all rfl), SL.get_fn (by with_unfolding_all rfl), SL.get_fn (by with_unfolding_all rfl), SL.get_fn (by with_unfolding_all rfl), SL.get_fn (by with_unfolding_all rfl), trivial⟩) (by refine ⟨AL.get_fn (by with_unfolding_all rfl), AL.get_fn (by with_unfolding_all rfl), AL.get_fn (by with_unfolding_all rfl), AL.get_fn (by with_unfolding_all rfl), trivial⟩) rfl ?_
  rintro ⟨i, row, k⟩ s ll ⟨k1, k2, k3, k4, k5, k6⟩
  dsimp only at k1 k2 k3 k4 k5 k6
  dsimp only [SL.sets, AL.sets]
  have hyi := fd_lt (B := 4294967296) (by decide) 8 y i
  have hyT := fd_dl (B := 4294967296) (by decide) 8 x
  by_cases hi8 : i < 8
  · (repeat' (first | (with_reducible refine i_ops ?_; first | (refine g_mv ?_; refine s_mv ?_) | refine o_nil ?_ | (refine g_some ?_; first | refine s_g_t ?_ | refine s_g_f ?_ | refine s_g_f' ?_ | refine s_g_u ?_) | (refine g_pick ?_; first | refine s_pick_t ?_ | refine s_pick_f ?_) | (refine g_pure ?_; first | refine s_iptrA ?_ | refine s_iptrAc ?_ | refine s_nilck ?_ | refine s_fptr0 ?_ | refine s_eqN ?_ | refine s_naddc ?_ | refine s_nadd ?_ | refine s_nsubL ?_ | refine s_nsubc ?_ | refine s_wadd ?_ | refine s_wsub ?_ | refine s_waddL ?_ | refine s_wsubL ?_ | refine s_wquoc ?_ | refine s_wremc ?_ | refine s_wmul ?_ | refine s_pure ?_ | refine s_saddB ?_) | (refine g_lload ?_; first | refine s_lloadV ?_ | refine s_lloadVc ?_ | refine s_lloadW ?_ | refine s_lload ?_) | (refine g_lstore ?_; first | refine s_lstoreV ?_ | refine s_lstoreVc ?_ | refine s_lstoreW ?_ | refine s_lstoreA ?_ | refine s_lstore ?_) | (refine g_lindex ?_; refine s_lindex ?_) | (refine g_lalloc ?_; refine s_lalloc ?_) | (refine g_lbox ?_; first | refine s_lboxW ?_ | refine s_lbox ?_) | (refine g_hload ?_; refine s_hloadP ?_)) | (with_reducible refine i_vc ?_; first | refine v_seq ?_ | refine v_ops ?_ | (refine g_cond ?_; first | refine s_cond_t ?_ | refine s_cond_f ?_) | refine v_block ?_ | refine v_skip ?_ | refine v_exit ?_ | refine v_ret ?_ | refine s_drawl ?_ | refine v_draw0 ?_) | (with_reducible refine i_plan ?_; first | refine p_done ?_ | refine s_pre ?_ | refine s_preN ?_ | refine s_ag_t ?_ | refine s_ag_f ?_ | refine s_alt ?_ | refine p_alt ?_ ?_) | (with_reducible first | refine n_then ?_ | refine r_then ?_ | refine e_then ?_ | refine n_block ?_ | refine r_block ?_ | refine e_block_eq (by with_unfolding_all rfl) ?_ | refine e_block_ne (by with_unfolding_all rfl) ?_ | (refine g_stand ?_; first | refine s_stand ?_ | refine s_standL ?_)) | ((with_reducible first | refine s_g_c ?_ ?_ | refine s_cond_c ?_ ?_ | refine s_tg_c ?_ ?_ | refine s_ag_c ?_ ?_) <;> intro hb <;> rw [hb] <;> (try simp only [decide_eq_true_eq, decide_eq_false_iff_not, beq_iff_eq, bne_iff_ne, beq_eq_false_iff_ne, bne_eq_false_iff_eq, ne_eq, Int.not_lt, Int.not_le, gt_iff_lt, ge_iff_le, Bool.not_eq_true', Bool.not_eq_false'] at hb)) | ((with_reducible first | refine s_ret ?_ | refine s_normal ?_); try simp only [x_tup0, x_tup1, x_tup2, x_tup3, x_tup4, x_tup5, and_true, true_and])))
    · refine v_loopX (α := Nat × Nat × List Nat) (fun z => z.1 ≤ 8 ∧ z.2.1 < 4294967296 ∧ z.2.2.length = 10 ∧ Dl 4294967296 z.2.2 ∧ (∀ m, z.1 ≤ m → z.2.2.getD m 0 = row.getD m 0) ∧ val 4294967296 (z.2.2.take z.1) + 4294967296 ^ z.1 * z.2.1 = val 4294967296 (row.take z.1) + val 4294967296 ((fd 4294967296 8 x).take z.1) * (fd 4294967296 8 y).getD i 0)
        (fun z => [(0, .pointer (some ⟨b, 0, none⟩)), (4, .int .u64 0), (5, .int .u64 0), (6, .int .u64 0), (7, .int .u64 0), (8, iv .i64 i), (9, iv .u64 z.2.1), (10, iv .i64 z.1)]) (fun z => [(4, na (fd 4294967296 8 x)), (5, na (fd 4294967296 8 y)), (6, na [0, 0, 0, 0, 0, 0, 0, 0]), (7, na z.2.2)]) (fun _ => G) (fun z => 8 - z.1) (0, 0, row)
        ⟨Nat.zero_le _, show (0 : Nat) < 4294967296 by decide, k2, k3, fun _ _ => rfl, by simp [val]⟩ (by refine ⟨SL.get_fn (by with_unfolding_all rfl), SL.get_fn (by with_unfolding_all rfl), SL.get_fn (by with_unfolding_all rfl), SL.get_fn (by with_unfolding_all rfl), SL.get_fn (by with_unfolding_all rfl), SL.get_fn (by with_unfolding_all rfl), SL.get_fn (by with_unfolding_all rfl), SL.get_fn (by with_unfolding_all rfl), trivial⟩) (by refine ⟨AL.get_fn (by with_unfolding_all rfl), AL.get_fn (by with_unfolding_all rfl), AL.get_fn (by with_unfolding_all rfl), AL.get_fn (by with_unfolding_all rfl), trivial⟩) rfl ?_
      rintro ⟨j, c, o⟩ s ll ⟨m1, m2, m3, m4, m5, m6⟩
      dsimp only at m1 m2 m3 m4 m5 m6
      dsimp only [SL.sets, AL.sets]
      have g1 := m4.getD (by decide) j
      have g2 := fd_lt (B := 4294967296) (by decide) 8 x j
      by_cases hj8 : j < 8
      · have hm := mul32 g2 hyi g1 m2
        (repeat' (first | (with_reducible refine i_ops ?_; first | (refine g_mv ?_; refine s_mv ?_) | refine o_nil ?_ | (refine g_some ?_; first | refine s_g_t ?_ | refine s_g_f ?_ | refine s_g_f' ?_ | refine s_g_u ?_) | (refine g_pick ?_; first | refine s_pick_t ?_ | refine s_pick_f ?_) | (refine g_pure ?_; first | refine s_iptrA ?_ | refine s_iptrAc ?_ | refine s_nilck ?_ | refine s_fptr0 ?_ | refine s_eqN ?_ | refine s_naddc ?_ | refine s_nadd ?_ | refine s_nsubL ?_ | refine s_nsubc ?_ | refine s_wadd ?_ | refine s_wsub ?_ | refine s_waddL ?_ | refine s_wsubL ?_ | refine s_wquoc ?_ | refine s_wremc ?_ | refine s_wmul ?_ | refine s_pure ?_ | refine s_saddB ?_) | (refine g_lload ?_; first | refine s_lloadV ?_ | refine s_lloadVc ?_ | refine s_lloadW ?_ | refine s_lload ?_) | (refine g_lstore ?_; first | refine s_lstoreV ?_ | refine s_lstoreVc ?_ | refine s_lstoreW ?_ | refine s_lstoreA ?_ | refine s_lstore ?_) | (refine g_lindex ?_; refine s_lindex ?_) | (refine g_lalloc ?_; refine s_lalloc ?_) | (refine g_lbox ?_; first | refine s_lboxW ?_ | refine s_lbox ?_) | (refine g_hload ?_; refine s_hloadP ?_)) | (with_reducible refine i_vc ?_; first | refine v_seq ?_ | refine v_ops ?_ | (refine g_cond ?_; first | refine s_cond_t ?_ | refine s_cond_f ?_) | refine v_block ?_ | refine v_skip ?_ | refine v_exit ?_ | refine v_ret ?_ | refine s_drawl ?_ | refine v_draw0 ?_) | (with_reducible refine i_plan ?_; first | refine p_done ?_ | refine s_pre ?_ | refine s_preN ?_ | refine s_ag_t ?_ | refine s_ag_f ?_ | refine s_alt ?_ | refine p_alt ?_ ?_) | (with_reducible first | refine n_then ?_ | refine r_then ?_ | refine e_then ?_ | refine n_block ?_ | refine r_block ?_ | refine e_block_eq (by with_unfolding_all rfl) ?_ | refine e_block_ne (by with_unfolding_all rfl) ?_ | (refine g_stand ?_; first | refine s_stand ?_ | refine s_standL ?_)) | ((with_reducible first | refine s_g_c ?_ ?_ | refine s_cond_c ?_ ?_ | refine s_tg_c ?_ ?_ | refine s_ag_c ?_ ?_) <;> intro hb <;> rw [hb] <;> (try simp only [decide_eq_true_eq, decide_eq_false_iff_not, beq_iff_eq, bne_iff_ne, beq_eq_false_iff_ne, bne_eq_false_iff_eq, ne_eq, Int.not_lt, Int.not_le, gt_iff_lt, ge_iff_le, Bool.not_eq_true', Bool.not_eq_false'] at hb)) | ((with_reducible first | refine s_ret ?_ | refine s_normal ?_); try simp only [x_tup0, x_tup1, x_tup2, x_tup3, x_tup4, x_tup5, and_true, true_and])))
        · have e : (((o.getD j 0 + (fd 4294967296 8 x).getD j 0 * (fd 4294967296 8 y).getD i 0 % 18446744073709551616) % 18446744073709551616 + c) % 18446744073709551616) = o.getD j 0 + (fd 4294967296 8 x).getD j 0 * (fd 4294967296 8 y).getD i 0 + c := by
            generalize (fd 4294967296 8 x).getD j 0 * (fd 4294967296 8 y).getD i 0 = p at *
            omega
          simp only [e]
          refine ⟨8 - (j + 1), by omega, (j + 1, _, o.set j _), rfl, ⟨by dsimp only; omega, by dsimp only; omega, by simpa using m3, m4.set j (Nat.mod_lt _ (by decide)), fun z hz => ?_, plus_step m6 (by omega) (m5 j (Nat.le_refl _)).symm rfl (Nat.mod_add_div _ _)⟩, (by refine ⟨SL.get_fn (by with_unfolding_all rfl), SL.get_fn (by with_unfolding_all rfl), SL.get_fn (by with_unfolding_all rfl), SL.get_fn (by with_unfolding_all rfl), SL.get_fn (by with_unfolding_all rfl), SL.get_fn (by with_unfolding_all rfl), SL.get_fn (by with_unfolding_all rfl), SL.get_fn (by with_unfolding_all rfl), trivial⟩), (by refine ⟨AL.get_fn (by with_unfolding_all rfl), AL.get_fn (by with_unfolding_all rfl), AL.get_fn (by with_unfolding_all rfl), AL.get_fn (by with_unfolding_all rfl), trivial⟩), rfl⟩
          dsimp only at hz ⊢
          rw [set_getD_ne o (by omega)]; exact m5 z (by omega)
        · omega
      · have hj : j = 8 := by omega
        subst hj
        have g8 := m4.getD (by decide) 8
        have P0 := hf.low
        (repeat' (first | (with_reducible refine i_ops ?_; first | (refine g_mv ?_; refine s_mv ?_) | refine o_nil ?_ | (refine g_some ?_; first | refine s_g_t ?_ | refine s_g_f ?_ | refine s_g_f' ?_ | refine s_g_u ?_) | (refine g_pick ?_; first | refine s_pick_t ?_ | refine s_pick_f ?_) | (refine g_pure ?_; first | refine s_iptrA ?_ | refine s_iptrAc ?_ | refine s_nilck ?_ | refine s_fptr0 ?_ | refine s_eqN ?_ | refine s_naddc ?_ | refine s_nadd ?_ | refine s_nsubL ?_ | refine s_nsubc ?_ | refine s_wadd ?_ | refine s_wsub ?_ | refine s_waddL ?_ | refine s_wsubL ?_ | refine s_wquoc ?_ | refine s_wremc ?_ | refine s_wmul ?_ | refine s_pure ?_ | refine s_saddB ?_) | (refine g_lload ?_; first | refine s_lloadV ?_ | refine s_lloadVc ?_ | refine s_lloadW ?_ | refine s_lload ?_) | (refine g_lstore ?_; first | refine s_lstoreV ?_ | refine s_lstoreVc ?_ | refine s_lstoreW ?_ | refine s_lstoreA ?_ | refine s_lstore ?_) | (refine g_lindex ?_; refine s_lindex ?_) | (refine g_lalloc ?_; refine s_lalloc ?_) | (refine g_lbox ?_; first | refine s_lboxW ?_ | refine s_lbox ?_) | (refine g_hload ?_; refine s_hloadP ?_)) | (with_reducible refine i_vc ?_; first | refine v_seq ?_ | refine v_ops ?_ | (refine g_cond ?_; first | refine s_cond_t ?_ | refine s_cond_f ?_) | refine v_block ?_ | refine v_skip ?_ | refine v_exit ?_ | refine v_ret ?_ | refine s_drawl ?_ | refine v_draw0 ?_) | (with_reducible refine i_plan ?_; first | refine p_done ?_ | refine s_pre ?_ | refine s_preN ?_ | refine s_ag_t ?_ | refine s_ag_f ?_ | refine s_alt ?_ | refine p_alt ?_ ?_) | (with_reducible first | refine n_then ?_ | refine r_then ?_ | refine e_then ?_ | refine n_block ?_ | refine r_block ?_ | refine e_block_eq (by with_unfolding_all rfl) ?_ | refine e_block_ne (by with_unfolding_all rfl) ?_ | (refine g_stand ?_; first | refine s_stand ?_ | refine s_standL ?_)) | ((with_reducible first | refine s_g_c ?_ ?_ | refine s_cond_c ?_ ?_ | refine s_tg_c ?_ ?_ | refine s_ag_c ?_ ?_) <;> intro hb <;> rw [hb] <;> (try simp only [decide_eq_true_eq, decide_eq_false_iff_not, beq_iff_eq, bne_iff_ne, beq_eq_false_iff_ne, bne_eq_false_iff_eq, ne_eq, Int.not_lt, Int.not_le, gt_iff_lt, ge_iff_le, Bool.not_eq_true', Bool.not_eq_false'] at hb)) | ((with_reducible first | refine s_ret ?_ | refine s_normal ?_); try simp only [x_tup0, x_tup1, x_tup2, x_tup3, x_tup4, x_tup5, and_true, true_and])))
        have hd8 : (o.getD 8 0 + c) % 18446744073709551616 = o.getD 8 0 + c := by omega
        rw [hd8]
        have hq1 : (((o.set 8 ((o.getD 8 0 + c) % 4294967296)).set 9 ((o.getD 8 0 + c) / 4294967296))).length = 10 := by simpa using m3
        have hq2 : Dl 4294967296 ((o.set 8 ((o.getD 8 0 + c) % 4294967296)).set 9 ((o.getD 8 0 + c) / 4294967296)) := (m4.set 8 (Nat.mod_lt _ (by decide))).set 9 (by omega)
        have hq3 : val 4294967296 (((o.set 8 ((o.getD 8 0 + c) % 4294967296)).set 9 ((o.getD 8 0 + c) / 4294967296)).take 10) = val 4294967296 (row.take 9) + x * (fd 4294967296 8 y).getD i 0 := by
          rw [val_set_take _ _ (by simp; omega), val_set_take _ _ (by omega), val_take_succ _ row 8, ← m5 8 (by omega)]
          rw [fd8, val_fd8 hx] at m6
          have e1 : (4294967296 : Nat) ^ 9 = 4294967296 ^ 8 * 4294967296 := by decide
          have e2 : (4294967296 : Nat) ^ 8 * ((o.getD 8 0 + c) % 4294967296) + 4294967296 ^ 8 * 4294967296 * ((o.getD 8 0 + c) / 4294967296) = 4294967296 ^ 8 * o.getD 8 0 + 4294967296 ^ 8 * c := by
            rw [Nat.mul_assoc, ← Nat.mul_add, Nat.mod_add_div, Nat.mul_add]
          rw [e1]
          omega
        generalize (o.set 8 ((o.getD 8 0 + c) % 4294967296)).set 9 ((o.getD 8 0 + c) / 4294967296) = q at *
        have hu0 := hq2.getD (by decide) 0
        have hu : q.getD 0 0 * 1 % 18446744073709551616 % 4294967296 = q.getD 0 0 := by omega
        rw [hu]
        refine v_loopX (α := Nat × Nat × List Nat) (fun z => z.1 ≤ 8 ∧ z.2.1 < 4294967296 ∧ z.2.2.length = 10 ∧ Dl 4294967296 z.2.2 ∧ (∀ m, z.1 ≤ m → z.2.2.getD m 0 = q.getD m 0) ∧ ((z.1 = 0 ∧ z.2.1 = 0) ∨ ∃ j', z.1 = j' + 1 ∧ 4294967296 * val 4294967296 (z.2.2.take j') + 4294967296 ^ (j' + 1) * z.2.1 = val 4294967296 (q.take (j' + 1)) + val 4294967296 ((fd 4294967296 8 p256).take (j' + 1)) * q.getD 0 0))
          (fun z => [(0, .pointer (some ⟨b, 0, none⟩)), (4, .int .u64 0), (5, .int .u64 0), (6, .int .u64 0), (7, .int .u64 0), (8, iv .i64 i), (9, iv .u64 z.2.1), (13, iv .u64 (q.getD 0 0)), (14, iv .i64 z.1)]) (fun z => [(4, na (fd 4294967296 8 x)), (5, na (fd 4294967296 8 y)), (6, na [0, 0, 0, 0, 0, 0, 0, 0]), (7, na z.2.2)]) (fun _ => G) (fun z => 8 - z.1) (0, 0, q)
          ⟨Nat.zero_le _, show (0 : Nat) < 4294967296 by decide, hq1, hq2, fun _ _ => rfl, .inl ⟨rfl, rfl⟩⟩ (by refine ⟨SL.get_fn (by with_unfolding_all rfl), SL.get_fn (by with_unfolding_all rfl), SL.get_fn (by with_unfolding_all rfl), SL.get_fn (by with_unfolding_all rfl), SL.get_fn (by with_unfolding_all rfl), SL.get_fn (by with_unfolding_all rfl), SL.get_fn (by with_unfolding_all rfl), SL.get_fn (by with_unfolding_all rfl), SL.get_fn (by with_unfolding_all rfl), trivial⟩) (by refine ⟨AL.get_fn (by with_unfolding_all rfl), AL.get_fn (by with_unfolding_all rfl), AL.get_fn (by with_unfolding_all rfl), AL.get_fn (by with_unfolding_all rfl), trivial⟩) rfl ?_
        rintro ⟨j, d, z⟩ s ll ⟨r1, r2, r3, r4, r5, r6⟩
        dsimp only at r1 r2 r3 r4 r5 r6
        dsimp only [SL.sets, AL.sets]
        have s1 := r4.getD (by decide) j
        have s2 := fd_lt (B := 4294967296) (by decide) 8 p256 j
        by_cases hj8 : j < 8
        · have hm := mul32 s2 hu0 s1 r2
          have P := hf.m hj8
          have e : (((z.getD j 0 + (fd 4294967296 8 p256).getD j 0 * q.getD 0 0 % 18446744073709551616) % 18446744073709551616 + d) % 18446744073709551616) = z.getD j 0 + (fd 4294967296 8 p256).getD j 0 * q.getD 0 0 + d := by
            generalize (fd 4294967296 8 p256).getD j 0 * q.getD 0 0 = p at *
            omega
          (repeat' (first | (with_reducible refine i_ops ?_; first | (refine g_mv ?_; refine s_mv ?_) | refine o_nil ?_ | (refine g_some ?_; first | refine s_g_t ?_ | refine s_g_f ?_ | refine s_g_f' ?_ | refine s_g_u ?_) | (refine g_pick ?_; first | refine s_pick_t ?_ | refine s_pick_f ?_) | (refine g_pure ?_; first | refine s_iptrA ?_ | refine s_iptrAc ?_ | refine s_nilck ?_ | refine s_fptr0 ?_ | refine s_eqN ?_ | refine s_naddc ?_ | refine s_nadd ?_ | refine s_nsubL ?_ | refine s_nsubc ?_ | refine s_wadd ?_ | refine s_wsub ?_ | refine s_waddL ?_ | refine s_wsubL ?_ | refine s_wquoc ?_ | refine s_wremc ?_ | refine s_wmul ?_ | refine s_pure ?_ | refine s_saddB ?_) | (refine g_lload ?_; first | refine s_lloadV ?_ | refine s_lloadVc ?_ | refine s_lloadW ?_ | refine s_lload ?_) | (refine g_lstore ?_; first | refine s_lstoreV ?_ | refine s_lstoreVc ?_ | refine s_lstoreW ?_ | refine s_lstoreA ?_ | refine s_lstore ?_) | (refine g_lindex ?_; refine s_lindex ?_) | (refine g_lalloc ?_; refine s_lalloc ?_) | (refine g_lbox ?_; first | refine s_lboxW ?_ | refine s_lbox ?_) | (refine g_hload ?_; refine s_hloadP ?_)) | (with_reducible refine i_vc ?_; first | refine v_seq ?_ | refine v_ops ?_ | (refine g_cond ?_; first | refine s_cond_t ?_ | refine s_cond_f ?_) | refine v_block ?_ | refine v_skip ?_ | refine v_exit ?_ | refine v_ret ?_ | refine s_drawl ?_ | refine v_draw0 ?_) | (with_reducible refine i_plan ?_; first | refine p_done ?_ | refine s_pre ?_ | refine s_preN ?_ | refine s_ag_t ?_ | refine s_ag_f ?_ | refine s_alt ?_ | refine p_alt ?_ ?_) | (with_reducible first | refine n_then ?_ | refine r_then ?_ | refine e_then ?_ | refine n_block ?_ | refine r_block ?_ | refine e_block_eq (by with_unfolding_all rfl) ?_ | refine e_block_ne (by with_unfolding_all rfl) ?_ | (refine g_stand ?_; first | refine s_stand ?_ | refine s_standL ?_)) | ((with_reducible first | refine s_g_c ?_ ?_ | refine s_cond_c ?_ ?_ | refine s_tg_c ?_ ?_ | refine s_ag_c ?_ ?_) <;> intro hb <;> rw [hb] <;> (try simp only [decide_eq_true_eq, decide_eq_false_iff_not, beq_iff_eq, bne_iff_ne, beq_eq_false_iff_ne, bne_eq_false_iff_eq, ne_eq, Int.not_lt, Int.not_le, gt_iff_lt, ge_iff_le, Bool.not_eq_true', Bool.not_eq_false'] at hb)) | ((with_reducible first | refine s_ret ?_ | refine s_normal ?_); try simp only [x_tup0, x_tup1, x_tup2, x_tup3, x_tup4, x_tup5, and_true, true_and])))
          · simp only [e]
            obtain ⟨j', rfl, r7⟩ : ∃ j', j = j' + 1 ∧ 4294967296 * val 4294967296 (z.take j') + 4294967296 ^ (j' + 1) * d = val 4294967296 (q.take (j' + 1)) + val 4294967296 ((fd 4294967296 8 p256).take (j' + 1)) * q.getD 0 0 := by
              rcases r6 with ⟨h, _⟩ | h
              · omega
              · exact h
            have e7 := r5 (j' + 1) (Nat.le_refl _)
            have hst := down_step (z := (z.getD (j' + 1) 0 + (fd 4294967296 8 p256).getD (j' + 1) 0 * q.getD 0 0 + d) % 4294967296) (d := (z.getD (j' + 1) 0 + (fd 4294967296 8 p256).getD (j' + 1) 0 * q.getD 0 0 + d) / 4294967296) r7 (by omega) (by rw [Nat.mod_add_div, e7])
            refine ⟨8 - (j' + 1 + 1), by omega, (j' + 1 + 1, (z.getD (j' + 1) 0 + (fd 4294967296 8 p256).getD (j' + 1) 0 * q.getD 0 0 + d) / 4294967296, z.set j' ((z.getD (j' + 1) 0 + (fd 4294967296 8 p256).getD (j' + 1) 0 * q.getD 0 0 + d) % 4294967296)), rfl, ⟨by dsimp only; omega, by dsimp only; omega, by simpa using r3, r4.set _ (Nat.mod_lt _ (by decide)), fun m hm' => ?_, .inr ⟨j' + 1, rfl, hst⟩⟩, (by refine ⟨SL.get_fn (by with_unfolding_all rfl), SL.get_fn (by with_unfolding_all rfl), SL.get_fn (by with_unfolding_all rfl), SL.get_fn (by with_unfolding_all rfl), SL.get_fn (by with_unfolding_all rfl), SL.get_fn (by with_unfolding_all rfl), SL.get_fn (by with_unfolding_all rfl), SL.get_fn (by with_unfolding_all rfl), SL.get_fn (by with_unfolding_all rfl), trivial⟩), (by refine ⟨AL.get_fn (by with_unfolding_all rfl), AL.get_fn (by with_unfolding_all rfl), AL.get_fn (by with_unfolding_all rfl), AL.get_fn (by with_unfolding_all rfl), trivial⟩), rfl⟩
            dsimp only at hm' ⊢
            rw [set_getD_ne z (by omega)]; exact r5 m (by omega)
          · simp only [e]
            have hj0 : j = 0 := by omega
            subst hj0
            have hd0 : d = 0 := by
              rcases r6 with ⟨_, h⟩ | ⟨j', h, _⟩
              · exact h
              · omega
            subst hd0
            have e7 := r5 0 (Nat.le_refl _)
            have eM : (fd 4294967296 8 p256).getD 0 0 = 4294967295 := by decide
            have hst := down_zero (B := 4294967296) (q := q) (m := fd 4294967296 8 p256) (u := q.getD 0 0) (d := (z.getD 0 0 + (fd 4294967296 8 p256).getD 0 0 * q.getD 0 0 + 0) / 4294967296) (by rw [eM, e7]; omega)
            have et : z.take 0 = q.take 0 := rfl
            rw [← et] at hst
            refine ⟨8 - (0 + 1), by omega, (0 + 1, (z.getD 0 0 + (fd 4294967296 8 p256).getD 0 0 * q.getD 0 0 + 0) / 4294967296, z), rfl, ⟨by dsimp only; omega, by dsimp only; omega, r3, r4, fun m hm' => r5 m (by dsimp only at hm'; omega), .inr ⟨0, rfl, hst⟩⟩, (by refine ⟨SL.get_fn (by with_unfolding_all rfl), SL.get_fn (by with_unfolding_all rfl), SL.get_fn (by with_unfolding_all rfl), SL.get_fn (by with_unfolding_all rfl), SL.get_fn (by with_unfolding_all rfl), SL.get_fn (by with_unfolding_all rfl), SL.get_fn (by with_unfolding_all rfl), SL.get_fn (by with_unfolding_all rfl), SL.get_fn (by with_unfolding_all rfl), trivial⟩), (by refine ⟨AL.get_fn (by with_unfolding_all rfl), AL.get_fn (by with_unfolding_all rfl), AL.get_fn (by with_unfolding_all rfl), AL.get_fn (by with_unfolding_all rfl), trivial⟩), rfl⟩
          · omega
        · have hj : j = 8 := by omega
          subst hj
          have s8 := r4.getD (by decide) 8
          have s9 := r4.getD (by decide) 9
          have e8 := r5 8 (by omega)
          have e9 := r5 9 (by omega)
          obtain ⟨j', hj', r7⟩ : ∃ j', 8 = j' + 1 ∧ 4294967296 * val 4294967296 (z.take j') + 4294967296 ^ (j' + 1) * d = val 4294967296 (q.take (j' + 1)) + val 4294967296 ((fd 4294967296 8 p256).take (j' + 1)) * q.getD 0 0 := by
            rcases r6 with ⟨h, _⟩ | h
            · omega
            · exact h
          have hj7 : j' = 7 := by omega
          subst hj7
          have hz8 : (z.getD 8 0 + d) % 18446744073709551616 = z.getD 8 0 + d := by omega
          have hz9 : (z.getD 9 0 + (z.getD 8 0 + d) / 4294967296) % 18446744073709551616 = z.getD 9 0 + (z.getD 8 0 + d) / 4294967296 := by omega
          (repeat' (first | (with_reducible refine i_ops ?_; first | (refine g_mv ?_; refine s_mv ?_) | refine o_nil ?_ | (refine g_some ?_; first | refine s_g_t ?_ | refine s_g_f ?_ | refine s_g_f' ?_ | refine s_g_u ?_) | (refine g_pick ?_; first | refine s_pick_t ?_ | refine s_pick_f ?_) | (refine g_pure ?_; first | refine s_iptrA ?_ | refine s_iptrAc ?_ | refine s_nilck ?_ | refine s_fptr0 ?_ | refine s_eqN ?_ | refine s_naddc ?_ | refine s_nadd ?_ | refine s_nsubL ?_ | refine s_nsubc ?_ | refine s_wadd ?_ | refine s_wsub ?_ | refine s_waddL ?_ | refine s_wsubL ?_ | refine s_wquoc ?_ | refine s_wremc ?_ | refine s_wmul ?_ | refine s_pure ?_ | refine s_saddB ?_) | (refine g_lload ?_; first | refine s_lloadV ?_ | refine s_lloadVc ?_ | refine s_lloadW ?_ | refine s_lload ?_) | (refine g_lstore ?_; first | refine s_lstoreV ?_ | refine s_lstoreVc ?_ | refine s_lstoreW ?_ | refine s_lstoreA ?_ | refine s_lstore ?_) | (refine g_lindex ?_; refine s_lindex ?_) | (refine g_lalloc ?_; refine s_lalloc ?_) | (refine g_lbox ?_; first | refine s_lboxW ?_ | refine s_lbox ?_) | (refine g_hload ?_; refine s_hloadP ?_)) | (with_reducible refine i_vc ?_; first | refine v_seq ?_ | refine v_ops ?_ | (refine g_cond ?_; first | refine s_cond_t ?_ | refine s_cond_f ?_) | refine v_block ?_ | refine v_skip ?_ | refine v_exit ?_ | refine v_ret ?_ | refine s_drawl ?_ | refine v_draw0 ?_) | (with_reducible refine i_plan ?_; first | refine p_done ?_ | refine s_pre ?_ | refine s_preN ?_ | refine s_ag_t ?_ | refine s_ag_f ?_ | refine s_alt ?_ | refine p_alt ?_ ?_) | (with_reducible first | refine n_then ?_ | refine r_then ?_ | refine e_then ?_ | refine n_block ?_ | refine r_block ?_ | refine e_block_eq (by with_unfolding_all rfl) ?_ | refine e_block_ne (by with_unfolding_all rfl) ?_ | (refine g_stand ?_; first | refine s_stand ?_ | refine s_standL ?_)) | ((with_reducible first | refine s_g_c ?_ ?_ | refine s_cond_c ?_ ?_ | refine s_tg_c ?_ ?_ | refine s_ag_c ?_ ?_) <;> intro hb <;> rw [hb] <;> (try simp only [decide_eq_true_eq, decide_eq_false_iff_not, beq_iff_eq, bne_iff_ne, beq_eq_false_iff_ne, bne_eq_false_iff_eq, ne_eq, Int.not_lt, Int.not_le, gt_iff_lt, ge_iff_le, Bool.not_eq_true', Bool.not_eq_false'] at hb)) | ((with_reducible first | refine s_ret ?_ | refine s_normal ?_); try simp only [x_tup0, x_tup1, x_tup2, x_tup3, x_tup4, x_tup5, and_true, true_and])))
          simp only [hz8, set_getD_ne z (show 7 ≠ 9 by decide), hz9]
          have hend := down_end (y := z.getD 9 0) (z := (z.getD 8 0 + d) % 4294967296) (d := (z.getD 8 0 + d) / 4294967296) r7 (by omega) (by rw [Nat.mod_add_div, e8])
          rw [fd8, val_fd8 p_lt, e9] at hend
          rw [val_take_succ _ q 9, val_take_succ _ q 8] at hq3
          have hv4 : val 4294967296 (((z.set 7 ((z.getD 8 0 + d) % 4294967296)).set 8 (z.getD 9 0 + (z.getD 8 0 + d) / 4294967296)).take 9) * 4294967296 = val 4294967296 (row.take 9) + x * (fd 4294967296 8 y).getD i 0 + q.getD 0 0 * p256 := by
            rw [← hq3, Nat.mul_comm (q.getD 0 0), e9]; exact hend
          have hlt := mont_lt (B := 4294967296) (by decide) k5 hyi hu0 hv4
          have h89 := val_take_succ 4294967296 ((z.set 7 ((z.getD 8 0 + d) % 4294967296)).set 8 (z.getD 9 0 + (z.getD 8 0 + d) / 4294967296)) 8
          rw [set_getD_eq _ (by simp; omega), b328] at h89
          refine ⟨8 - (i + 1), by omega, (i + 1, (z.set 7 ((z.getD 8 0 + d) % 4294967296)).set 8 (z.getD 9 0 + (z.getD 8 0 + d) / 4294967296), k + q.getD 0 0 * 4294967296 ^ i), rfl, ⟨by dsimp only; omega, by simpa using r3, (r4.set 7 (Nat.mod_lt _ (by decide))).set 8 (by omega), ?_, hlt, kNext k6 hu0⟩, (by refine ⟨SL.get_fn (by with_unfolding_all rfl), SL.get_fn (by with_unfolding_all rfl), SL.get_fn (by with_unfolding_all rfl), SL.get_fn (by with_unfolding_all rfl), SL.get_fn (by with_unfolding_all rfl), SL.get_fn (by with_unfolding_all rfl), trivial⟩), (by refine ⟨AL.get_fn (by with_unfolding_all rfl), AL.get_fn (by with_unfolding_all rfl), AL.get_fn (by with_unfolding_all rfl), AL.get_fn (by with_unfolding_all rfl), trivial⟩), rfl⟩
          dsimp only
          rw [val_take_succ _ (fd 4294967296 8 y)]
          exact mont_inv k4 hv4
    · omega
  · have hi : i = 8 := by omega
    subst hi
    have d8 := k3.getD (by decide) 8
    (repeat' (first | (with_reducible refine i_ops ?_; first | (refine g_mv ?_; refine s_mv ?_) | refine o_nil ?_ | (refine g_some ?_; first | refine s_g_t ?_ | refine s_g_f ?_ | refine s_g_f' ?_ | refine s_g_u ?_) | (refine g_pick ?_; first | refine s_pick_t ?_ | refine s_pick_f ?_) | (refine g_pure ?_; first | refine s_iptrA ?_ | refine s_iptrAc ?_ | refine s_nilck ?_ | refine s_fptr0 ?_ | refine s_eqN ?_ | refine s_naddc ?_ | refine s_nadd ?_ | refine s_nsubL ?_ | refine s_nsubc ?_ | refine s_wadd ?_ | refine s_wsub ?_ | refine s_waddL ?_ | refine s_wsubL ?_ | refine s_wquoc ?_ | refine s_wremc ?_ | refine s_wmul ?_ | refine s_pure ?_ | refine s_saddB ?_) | (refine g_lload ?_; first | refine s_lloadV ?_ | refine s_lloadVc ?_ | refine s_lloadW ?_ | refine s_lload ?_) | (refine g_lstore ?_; first | refine s_lstoreV ?_ | refine s_lstoreVc ?_ | refine s_lstoreW ?_ | refine s_lstoreA ?_ | refine s_lstore ?_) | (refine g_lindex ?_; refine s_lindex ?_) | (refine g_lalloc ?_; refine s_lalloc ?_) | (refine g_lbox ?_; first | refine s_lboxW ?_ | refine s_lbox ?_) | (refine g_hload ?_; refine s_hloadP ?_)) | (with_reducible refine i_vc ?_; first | refine v_seq ?_ | refine v_ops ?_ | (refine g_cond ?_; first | refine s_cond_t ?_ | refine s_cond_f ?_) | refine v_block ?_ | refine v_skip ?_ | refine v_exit ?_ | refine v_ret ?_ | refine s_drawl ?_ | refine v_draw0 ?_) | (with_reducible refine i_plan ?_; first | refine p_done ?_ | refine s_pre ?_ | refine s_preN ?_ | refine s_ag_t ?_ | refine s_ag_f ?_ | refine s_alt ?_ | refine p_alt ?_ ?_) | (with_reducible first | refine n_then ?_ | refine r_then ?_ | refine e_then ?_ | refine n_block ?_ | refine r_block ?_ | refine e_block_eq (by with_unfolding_all rfl) ?_ | refine e_block_ne (by with_unfolding_all rfl) ?_ | (refine g_stand ?_; first | refine s_stand ?_ | refine s_standL ?_)) | ((with_reducible first | refine s_g_c ?_ ?_ | refine s_cond_c ?_ ?_ | refine s_tg_c ?_ ?_ | refine s_ag_c ?_ ?_) <;> intro hb <;> rw [hb] <;> (try simp only [decide_eq_true_eq, decide_eq_false_iff_not, beq_iff_eq, bne_iff_ne, beq_eq_false_iff_ne, bne_eq_false_iff_eq, ne_eq, Int.not_lt, Int.not_le, gt_iff_lt, ge_iff_le, Bool.not_eq_true', Bool.not_eq_false'] at hb)) | ((with_reducible first | refine s_ret ?_ | refine s_normal ?_); try simp only [x_tup0, x_tup1, x_tup2, x_tup3, x_tup4, x_tup5, and_true, true_and])))
    refine v_loopX (α := Nat × List Nat) (fun z => z.1 ≤ 8 ∧ z.2.length = 8 ∧ (∀ m, m < z.1 → z.2.getD m 0 = row.getD m 0))
      (fun z => [(0, .pointer (some ⟨b, 0, none⟩)), (6, .int .u64 0), (7, .int .u64 0), (15, .int .u64 0), (16, iv .i64 z.1)]) (fun z => [(6, na [0, 0, 0, 0, 0, 0, 0, 0]), (7, na row), (15, na z.2)]) (fun _ => G) (fun z => 8 - z.1) (0, [0, 0, 0, 0, 0, 0, 0, 0])
      ⟨Nat.zero_le _, rfl, fun m hm => absurd hm (by omega)⟩ (by refine ⟨SL.get_fn (by with_unfolding_all rfl), SL.get_fn (by with_unfolding_all rfl), SL.get_fn (by with_unfolding_all rfl), SL.get_fn (by with_unfolding_all rfl), SL.get_fn (by with_unfolding_all rfl), trivial⟩) (by refine ⟨AL.get_fn (by with_unfolding_all rfl), AL.get_fn (by with_unfolding_all rfl), AL.get_fn (by with_unfolding_all rfl), trivial⟩) rfl ?_
    rintro ⟨j, o⟩ s ll ⟨m1, m2, m3⟩
    dsimp only at m1 m2 m3
    dsimp only [SL.sets, AL.sets]
    by_cases hj8 : j < 8
    · (repeat' (first | (with_reducible refine i_ops ?_; first | (refine g_mv ?_; refine s_mv ?_) | refine o_nil ?_ | (refine g_some ?_; first | refine s_g_t ?_ | refine s_g_f ?_ | refine s_g_f' ?_ | refine s_g_u ?_) | (refine g_pick ?_; first | refine s_pick_t ?_ | refine s_pick_f ?_) | (refine g_pure ?_; first | refine s_iptrA ?_ | refine s_iptrAc ?_ | refine s_nilck ?_ | refine s_fptr0 ?_ | refine s_eqN ?_ | refine s_naddc ?_ | refine s_nadd ?_ | refine s_nsubL ?_ | refine s_nsubc ?_ | refine s_wadd ?_ | refine s_wsub ?_ | refine s_waddL ?_ | refine s_wsubL ?_ | refine s_wquoc ?_ | refine s_wremc ?_ | refine s_wmul ?_ | refine s_pure ?_ | refine s_saddB ?_) | (refine g_lload ?_; first | refine s_lloadV ?_ | refine s_lloadVc ?_ | refine s_lloadW ?_ | refine s_lload ?_) | (refine g_lstore ?_; first | refine s_lstoreV ?_ | refine s_lstoreVc ?_ | refine s_lstoreW ?_ | refine s_lstoreA ?_ | refine s_lstore ?_) | (refine g_lindex ?_; refine s_lindex ?_) | (refine g_lalloc ?_; refine s_lalloc ?_) | (refine g_lbox ?_; first | refine s_lboxW ?_ | refine s_lbox ?_) | (refine g_hload ?_; refine s_hloadP ?_)) | (with_reducible refine i_vc ?_; first | refine v_seq ?_ | refine v_ops ?_ | (refine g_cond ?_; first | refine s_cond_t ?_ | refine s_cond_f ?_) | refine v_block ?_ | refine v_skip ?_ | refine v_exit ?_ | refine v_ret ?_ | refine s_drawl ?_ | refine v_draw0 ?_) | (with_reducible refine i_plan ?_; first | refine p_done ?_ | refine s_pre ?_ | refine s_preN ?_ | refine s_ag_t ?_ | refine s_ag_f ?_ | refine s_alt ?_ | refine p_alt ?_ ?_) | (with_reducible first | refine n_then ?_ | refine r_then ?_ | refine e_then ?_ | refine n_block ?_ | refine r_block ?_ | refine e_block_eq (by with_unfolding_all rfl) ?_ | refine e_block_ne (by with_unfolding_all rfl) ?_ | (refine g_stand ?_; first | refine s_stand ?_ | refine s_standL ?_)) | ((with_reducible first | refine s_g_c ?_ ?_ | refine s_cond_c ?_ ?_ | refine s_tg_c ?_ ?_ | refine s_ag_c ?_ ?_) <;> intro hb <;> rw [hb] <;> (try simp only [decide_eq_true_eq, decide_eq_false_iff_not, beq_iff_eq, bne_iff_ne, beq_eq_false_iff_ne, bne_eq_false_iff_eq, ne_eq, Int.not_lt, Int.not_le, gt_iff_lt, ge_iff_le, Bool.not_eq_true', Bool.not_eq_false'] at hb)) | ((with_reducible first | refine s_ret ?_ | refine s_normal ?_); try simp only [x_tup0, x_tup1, x_tup2, x_tup3, x_tup4, x_tup5, and_true, true_and])))
      · refine ⟨8 - (j + 1), by omega, (j + 1, o.set j (row.getD j 0)), rfl, ⟨by dsimp only; omega, by simpa using m2, fun m hm => ?_⟩, (by refine ⟨SL.get_fn (by with_unfolding_all rfl), SL.get_fn (by with_unfolding_all rfl), SL.get_fn (by with_unfolding_all rfl), SL.get_fn (by with_unfolding_all rfl), SL.get_fn (by with_unfolding_all rfl), trivial⟩), (by refine ⟨AL.get_fn (by with_unfolding_all rfl), AL.get_fn (by with_unfolding_all rfl), AL.get_fn (by with_unfolding_all rfl), trivial⟩), rfl⟩
        dsimp only at hm ⊢
        by_cases e : m = j
        · subst e; rw [set_getD_eq o (by omega)]
        · rw [set_getD_ne o (by omega)]; exact m3 m (by omega)
      all_goals omega
    · have hj : j = 8 := by omega
      subst hj
      have eo : o = fd 4294967296 8 (val 4294967296 (row.take 8)) := by
        rw [← fd_of (k3.take 8) (by rw [List.length_take]; omega) rfl]
        exact ext_getD (by rw [List.length_take]; omega) fun m hm => by rw [m3 m (by omega), getD_take row (by omega)]
      have hn : val 4294967296 (row.take 8) < 115792089237316195423570985008687907853269984665640564039457584007913129639936 := by
        have := val_lt (k3.take 8)
        rw [List.length_take, show min 8 row.length = 8 by omega, b328] at this; exact this
      subst eo
      rw [fd8, val_fd8 hy, b328] at k4
      rw [b328] at k6
      have hR := val_take_succ 4294967296 row 8
      rw [b328] at hR
      rw [show 8 + 1 = 9 from rfl] at hR
      generalize val 4294967296 (row.take 8) = n at *
      have hlt : val 4294967296 (row.take 9) < 2 * p256 := by
        have h1 : k * p256 ≤ 115792089237316195423570985008687907853269984665640564039457584007913129639935 * p256 := Nat.mul_le_mul_right _ (by omega)
        generalize x * y = p at *
        omega
      have hm := mM_of (t := val 4294967296 (row.take 9) % p256) (a := x) (b := y) (Nat.mod_lt _ p_pos) (by
        rw [Nat.mul_mod, Nat.mod_mod, ← Nat.mul_mod, k4, Nat.add_mul_mod_self_right])
      have hmod : mM x y = if val 4294967296 (row.take 9) < p256 then val 4294967296 (row.take 9) else val 4294967296 (row.take 9) - p256 := by
        rw [← hm]
        split
        · exact Nat.mod_eq_of_lt (by assumption)
        · rw [Nat.mod_eq_sub_mod (by omega), Nat.mod_eq_of_lt (by omega)]
      have PW := hf.mw
      have ln := fd_len 4294967296 8 n
      have ln2 := fd_len 4294967296 8 ((n + (115792089237316195423570985008687907853269984665640564039457584007913129639936 - p256)) % 115792089237316195423570985008687907853269984665640564039457584007913129639936)
      (repeat' (first | (with_reducible refine i_ops ?_; first | (refine g_mv ?_; refine s_mv ?_) | refine o_nil ?_ | (refine g_some ?_; first | refine s_g_t ?_ | refine s_g_f ?_ | refine s_g_f' ?_ | refine s_g_u ?_) | (refine g_pick ?_; first | refine s_pick_t ?_ | refine s_pick_f ?_) | (refine g_pure ?_; first | refine s_iptrA ?_ | refine s_iptrAc ?_ | refine s_nilck ?_ | refine s_fptr0 ?_ | refine s_eqN ?_ | refine s_naddc ?_ | refine s_nadd ?_ | refine s_nsubL ?_ | refine s_nsubc ?_ | refine s_wadd ?_ | refine s_wsub ?_ | refine s_waddL ?_ | refine s_wsubL ?_ | refine s_wquoc ?_ | refine s_wremc ?_ | refine s_wmul ?_ | refine s_pure ?_ | refine s_saddB ?_) | (refine g_lload ?_; first | refine s_lloadV ?_ | refine s_lloadVc ?_ | refine s_lloadW ?_ | refine s_lload ?_) | (refine g_lstore ?_; first | refine s_lstoreV ?_ | refine s_lstoreVc ?_ | refine s_lstoreW ?_ | refine s_lstoreA ?_ | refine s_lstore ?_) | (refine g_lindex ?_; refine s_lindex ?_) | (refine g_lalloc ?_; refine s_lalloc ?_) | (refine g_lbox ?_; first | refine s_lboxW ?_ | refine s_lbox ?_) | (refine g_hload ?_; refine s_hloadP ?_) | refine o_callp (by with_unfolding_all rfl) (by first | exact lessR n p256 G hn p_lt | exact minusR n p256 G hn p_lt) ?_ | (refine o_callg (by with_unfolding_all rfl) (by first | exact lessR n p256 G hn p_lt | exact minusR n p256 G hn p_lt) ?_; intro G' hle)) | (with_reducible refine i_vc ?_; first | refine v_seq ?_ | refine v_ops ?_ | (refine g_cond ?_; first | refine s_cond_t ?_ | refine s_cond_f ?_) | refine v_block ?_ | refine v_skip ?_ | refine v_exit ?_ | refine v_ret ?_ | refine s_drawl ?_ | refine v_draw0 ?_) | (with_reducible refine i_plan ?_; first | refine p_done ?_ | refine s_pre ?_ | refine s_preN ?_ | refine s_ag_t ?_ | refine s_ag_f ?_ | refine p_callp (by with_unfolding_all rfl) (by first | exact lessR n p256 G hn p_lt | exact minusR n p256 G hn p_lt) (by first | assumption | exact GH.le_refl _ | ((repeat (first | exact GH.le_refl _ | assumption | refine GH.le_trans ?_ (by assumption))); first | done | fail)) ?_ p_no | (refine p_callg (by with_unfolding_all rfl) (by first | exact lessR n p256 G hn p_lt | exact minusR n p256 G hn p_lt) (by first | assumption | exact GH.le_refl _ | ((repeat (first | exact GH.le_refl _ | assumption | refine GH.le_trans ?_ (by assumption))); first | done | fail)) ?_ p_no; intro G' hle) | refine s_alt ?_ | refine p_alt ?_ ?_) | (with_reducible first | refine n_then ?_ | refine r_then ?_ | refine e_then ?_ | refine n_block ?_ | refine r_block ?_ | refine e_block_eq (by with_unfolding_all rfl) ?_ | refine e_block_ne (by with_unfolding_all rfl) ?_ | (refine g_stand ?_; first | refine s_stand ?_ | refine s_standL ?_)) | ((with_reducible first | refine s_g_c ?_ ?_ | refine s_cond_c ?_ ?_ | refine s_tg_c ?_ ?_ | refine s_ag_c ?_ ?_) <;> intro hb <;> rw [hb] <;> (try simp only [decide_eq_true_eq, decide_eq_false_iff_not, beq_iff_eq, bne_iff_ne, beq_eq_false_iff_ne, bne_eq_false_iff_eq, ne_eq, Int.not_lt, Int.not_le, gt_iff_lt, ge_iff_le, Bool.not_eq_true', Bool.not_eq_false'] at hb)) | ((with_reducible first | refine s_ret ?_ | refine s_normal ?_); try simp only [x_tup0, x_tup1, x_tup2, x_tup3, x_tup4, x_tup5, and_true, true_and])))
      all_goals rw [na_ext (fd_len _ _ _)]
      · have e : (n + (115792089237316195423570985008687907853269984665640564039457584007913129639936 - p256)) % 115792089237316195423570985008687907853269984665640564039457584007913129639936 = mM x y := by rw [hmod]; split <;> omega
        rw [e]
      · have e : (n + (115792089237316195423570985008687907853269984665640564039457584007913129639936 - p256)) % 115792089237316195423570985008687907853269984665640564039457584007913129639936 = mM x y := by rw [hmod]; split <;> omega
        rw [e]
      · have e : n = mM x y := by rw [hmod]; split <;> omega
        rw [← e]
end Go.Proofs.Ytdeihgcgglhhcaa.V
