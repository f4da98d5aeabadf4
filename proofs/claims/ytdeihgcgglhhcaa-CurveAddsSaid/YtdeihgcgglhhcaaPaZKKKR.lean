/- The document's products. -/
import Derived.Test.YtdeihgcgglhhcaaPaZKDKJ
section
set_option linter.unusedSimpArgs false
set_option linter.unusedVariables false
set_option maxRecDepth 20000
-- @nums
-- @extra s_iptrA s_iptrAc s_nilck s_fptr0 s_eqN s_naddc s_nadd s_nsubL s_nsubc s_wadd s_wsub s_waddL s_wsubL s_wquoc s_wremc s_wmul
-- @pre g_lload s_lloadV s_lloadVc s_lloadW
-- @pre g_lstore s_lstoreV s_lstoreVc s_lstoreW
-- @pre g_lbox s_lboxW
namespace Go.Proofs.Ytdeihgcgglhhcaa.V
open Go.RowKit Go.ChangeShapes Go.WideShapes
theorem mul32 {x m r c : Nat} (hx : x < 4294967296) (hm : m < 4294967296) (hr : r < 4294967296) (hc : c < 4294967296) : r + x * m + c < 18446744073709551616 := by
  have h1 : x * m ≤ 4294967295 * 4294967295 := Nat.mul_le_mul (by omega) (by omega)
  omega
theorem kNext {B k u i : Nat} (hk : k < B ^ i) (hu : u < B) : k + u * B ^ i < B ^ (i + 1) := by
  have h1 : (u + 1) * B ^ i ≤ B * B ^ i := Nat.mul_le_mul_right _ (by omega)
  rw [Nat.pow_succ, Nat.mul_comm _ B]
  rw [Nat.add_mul, Nat.one_mul] at h1
  omega
/-- A row moved down by one place, step by step. -/
theorem down_step {B : Nat} {o q m : List Nat} {j c u z d : Nat} (h : B * val B (o.take j) + B ^ (j + 1) * c = val B (q.take (j + 1)) + val B (m.take (j + 1)) * u) (hj : j < o.length) (hz : z + B * d = q.getD (j + 1) 0 + m.getD (j + 1) 0 * u + c) :
    B * val B ((o.set j z).take (j + 1)) + B ^ (j + 1 + 1) * d = val B (q.take (j + 1 + 1)) + val B (m.take (j + 1 + 1)) * u := by
  rw [val_set_take B o hj, val_take_succ B q, val_take_succ B m, Nat.add_mul]
  have e1 : B ^ (j + 1 + 1) * d = B ^ (j + 1) * (B * d) := by rw [Nat.pow_succ B (j + 1), Nat.mul_assoc]
  have e2 : B * (val B (o.take j) + B ^ j * z) = B * val B (o.take j) + B ^ (j + 1) * z := by
    rw [Nat.mul_add, Nat.pow_succ, ← Nat.mul_assoc, Nat.mul_comm B (B ^ j)]
  have e3 : B ^ (j + 1) * z + B ^ (j + 1) * (B * d) = B ^ (j + 1) * q.getD (j + 1) 0 + B ^ (j + 1) * m.getD (j + 1) 0 * u + B ^ (j + 1) * c := by
    rw [← Nat.mul_add, hz, Nat.mul_add, Nat.mul_add, Nat.mul_assoc]
  rw [e1, e2]
  omega
theorem down_zero {B : Nat} {q m : List Nat} {u d : Nat} (h : B * d = q.getD 0 0 + m.getD 0 0 * u) : B * val B ((q.take 0)) + B ^ (0 + 1) * d = val B (q.take (0 + 1)) + val B (m.take (0 + 1)) * u := by
  rw [val_take_succ B q, val_take_succ B m]
  simp only [List.take_zero, val, Nat.mul_zero, Nat.pow_zero, Nat.zero_add, Nat.pow_one, Nat.one_mul]
  exact h
theorem down_end {B : Nat} {o q m : List Nat} {n c u : Nat} (h : B * val B (o.take n) + B ^ (n + 1) * c = val B (q.take (n + 1)) + val B (m.take (n + 1)) * u) (hn : n + 1 < o.length) {z d y : Nat} (hz : z + B * d = q.getD (n + 1) 0 + c) :
    val B (((o.set n z).set (n + 1) (y + d)).take (n + 2)) * B = val B (q.take (n + 1)) + B ^ (n + 1) * q.getD (n + 1) 0 + B ^ (n + 2) * y + val B (m.take (n + 1)) * u := by
  rw [val_set_take B (o.set n z) (by simpa using hn), val_set_take B o (by omega)]
  have e1 : B ^ (n + 2) * y = B ^ (n + 1) * (B * y) := by rw [Nat.pow_succ B (n + 1), Nat.mul_assoc]
  have e2 : (val B (o.take n) + B ^ n * z + B ^ (n + 1) * (y + d)) * B = B * val B (o.take n) + B ^ (n + 1) * z + B ^ (n + 1) * (B * y) + B ^ (n + 1) * (B * d) := by
    rw [Nat.add_mul, Nat.add_mul, Nat.mul_add, Nat.add_mul, Nat.mul_comm _ B, Nat.mul_assoc (B ^ (n + 1)) y, Nat.mul_assoc (B ^ (n + 1)) d, Nat.mul_comm y B, Nat.mul_comm d B, Nat.pow_succ B n, Nat.mul_assoc (B ^ n) z, Nat.mul_comm z B, ← Nat.mul_assoc (B ^ n) B z]
    omega
  have e3 : B ^ (n + 1) * z + B ^ (n + 1) * (B * d) = B ^ (n + 1) * q.getD (n + 1) 0 + B ^ (n + 1) * c := by rw [← Nat.mul_add, hz, Nat.mul_add]
  rw [e1, e2]
  omega
theorem mulR (b x y : Nat) (G : GH) (hf : FO G b) (hx : x < 115792089237316195423570985008687907853269984665640564039457584007913129639936) (hy : y < 115792089237316195423570985008687907853269984665640564039457584007913129639936) (hxy : x * y < 115792089237316195423570985008687907853269984665640564039457584007913129639936 * p256) : HC Try.prog 40 #[.pointer (some ⟨b, 0, none⟩), fw x, fw y] G fun v G' => v = fw (mM x y) ∧ G' = G := by
  have hp : p256 = 115792089210356248762697446949407573530086143415290314195533631308867097853951 := rfl
  have l1 := fd_len 4294967296 8 x
  have l2 := fd_len 4294967296 8 y
  have l3 := fd_len 4294967296 8 p256
  refine HC.start comp40 rfl ?_; unfold pc40
  (repeat' (first | (with_reducible refine i_ops ?_; first | (refine g_mv ?_; refine s_mv ?_) | refine o_nil ?_ | (refine g_lalloc ?_; refine s_lalloc ?_) | (refine g_lbox ?_; refine s_lboxW ?_)) | (with_reducible refine i_vc ?_; first | refine v_seq ?_ | refine v_ops ?_ | refine v_block ?_) | (with_reducible refine n_then ?_)))
  refine v_loopX (α := Nat × List Nat × Nat) (fun z => z.1 ≤ 8 ∧ z.2.1.length = 10 ∧ Dl 4294967296 z.2.1 ∧ val 4294967296 (z.2.1.take 9) * 4294967296 ^ z.1 = x * val 4294967296 ((fd 4294967296 8 y).take z.1) + z.2.2 * p256 ∧ val 4294967296 (z.2.1.take 9) < x + p256 ∧ z.2.2 < 4294967296 ^ z.1)
    (fun z => [(0, .pointer (some ⟨b, 0, none⟩)), (4, .int .u64 0), (5, .int .u64 0), (6, .int .u64 0), (7, .int .u64 0), (8, iv .i64 z.1)]) (fun z => [(4, na (fd 4294967296 8 x)), (5, na (fd 4294967296 8 y)), (6, na [0, 0, 0, 0, 0, 0, 0, 0]), (7, na z.2.1)]) (fun _ => G) (fun z => 8 - z.1) (0, List.replicate 10 0, 0)
    ⟨Nat.zero_le _, by simp, Dl.rep _ (by decide), by rw [List.take_replicate, val_rep]; simp [val], by rw [List.take_replicate, val_rep]; omega, by simp⟩ qhs qhl rfl ?_
  rintro ⟨i, row, k⟩ s ll ⟨k1, k2, k3, k4, k5, k6⟩
  dsimp only at k1 k2 k3 k4 k5 k6
  dsimp only [SL.sets, AL.sets]
  have hyi := fd_lt (B := 4294967296) (by decide) 8 y i
  have hyT := fd_dl (B := 4294967296) (by decide) 8 x
  by_cases hi8 : i < 8
  · (repeat' (first | (with_reducible refine i_ops ?_; first | (refine g_mv ?_; refine s_mv ?_) | refine o_nil ?_ | (refine g_pure ?_; refine s_pure ?_) | (refine g_lalloc ?_; refine s_lalloc ?_)) | (with_reducible refine i_vc ?_; first | refine v_seq ?_ | refine v_ops ?_ | (refine g_cond ?_; first | refine s_cond_t ?_ | refine s_cond_f ?_) | refine v_block ?_ | refine v_skip ?_ | refine v_exit ?_) | (with_reducible first | refine n_then ?_ | refine e_then ?_ | refine e_block_eq qrf ?_) | ((with_reducible refine s_cond_c ?_ ?_) <;> intro hb <;> rw [hb] <;> (try simp only [decide_eq_true_eq, decide_eq_false_iff_not, beq_iff_eq, bne_iff_ne, beq_eq_false_iff_ne, bne_eq_false_iff_eq, ne_eq, Int.not_lt, Int.not_le, gt_iff_lt, ge_iff_le, Bool.not_eq_true', Bool.not_eq_false'] at hb))))
    · refine v_loopX (α := Nat × Nat × List Nat) (fun z => z.1 ≤ 8 ∧ z.2.1 < 4294967296 ∧ z.2.2.length = 10 ∧ Dl 4294967296 z.2.2 ∧ (∀ m, z.1 ≤ m → z.2.2.getD m 0 = row.getD m 0) ∧ val 4294967296 (z.2.2.take z.1) + 4294967296 ^ z.1 * z.2.1 = val 4294967296 (row.take z.1) + val 4294967296 ((fd 4294967296 8 x).take z.1) * (fd 4294967296 8 y).getD i 0)
        (fun z => [(0, .pointer (some ⟨b, 0, none⟩)), (4, .int .u64 0), (5, .int .u64 0), (6, .int .u64 0), (7, .int .u64 0), (8, iv .i64 i), (9, iv .u64 z.2.1), (10, iv .i64 z.1)]) (fun z => [(4, na (fd 4294967296 8 x)), (5, na (fd 4294967296 8 y)), (6, na [0, 0, 0, 0, 0, 0, 0, 0]), (7, na z.2.2)]) (fun _ => G) (fun z => 8 - z.1) (0, 0, row)
        ⟨Nat.zero_le _, show (0 : Nat) < 4294967296 by decide, k2, k3, fun _ _ => rfl, by simp [val]⟩ qhs qhl rfl ?_
      rintro ⟨j, c, o⟩ s ll ⟨m1, m2, m3, m4, m5, m6⟩
      dsimp only at m1 m2 m3 m4 m5 m6
      dsimp only [SL.sets, AL.sets]
      have g1 := m4.getD (by decide) j
      have g2 := fd_lt (B := 4294967296) (by decide) 8 x j
      by_cases hj8 : j < 8
      · have hm := mul32 g2 hyi g1 m2
        (repeat' (first | (with_reducible refine i_ops ?_; first | (refine g_mv ?_; refine s_mv ?_) | refine o_nil ?_ | (refine g_pure ?_; first | refine s_nilck ?_ | refine s_fptr0 ?_ | refine s_naddc ?_ | refine s_wadd ?_ | refine s_wquoc ?_ | refine s_wremc ?_ | refine s_wmul ?_ | refine s_pure ?_) | (refine g_lload ?_; refine s_lloadV ?_) | (refine g_lstore ?_; refine s_lstoreV ?_) | (refine g_lindex ?_; refine s_lindex ?_)) | (with_reducible refine i_vc ?_; first | refine v_seq ?_ | refine v_ops ?_ | (refine g_cond ?_; first | refine s_cond_t ?_ | refine s_cond_f ?_) | refine v_block ?_ | refine v_skip ?_ | refine v_exit ?_ | refine s_drawl ?_) | (with_reducible first | refine n_then ?_ | refine e_then ?_ | refine n_block ?_ | refine e_block_eq qrf ?_) | ((with_reducible refine s_cond_c ?_ ?_) <;> intro hb <;> rw [hb] <;> (try simp only [decide_eq_true_eq, decide_eq_false_iff_not, beq_iff_eq, bne_iff_ne, beq_eq_false_iff_ne, bne_eq_false_iff_eq, ne_eq, Int.not_lt, Int.not_le, gt_iff_lt, ge_iff_le, Bool.not_eq_true', Bool.not_eq_false'] at hb))))
        · have e : (((o.getD j 0 + (fd 4294967296 8 x).getD j 0 * (fd 4294967296 8 y).getD i 0 % 18446744073709551616) % 18446744073709551616 + c) % 18446744073709551616) = o.getD j 0 + (fd 4294967296 8 x).getD j 0 * (fd 4294967296 8 y).getD i 0 + c := by
            generalize (fd 4294967296 8 x).getD j 0 * (fd 4294967296 8 y).getD i 0 = p at *
            omega
          simp only [e]
          refine ⟨8 - (j + 1), by omega, (j + 1, _, o.set j _), rfl, ⟨by dsimp only; omega, by dsimp only; omega, by simpa using m3, m4.set j (Nat.mod_lt _ (by decide)), fun z hz => ?_, plus_step m6 (by omega) (m5 j (Nat.le_refl _)).symm rfl (Nat.mod_add_div _ _)⟩, qhs, qhl, rfl⟩
          dsimp only at hz ⊢
          rw [set_getD_ne o (by omega)]; exact m5 z (by omega)
        · omega
      · have hj : j = 8 := by omega
        subst hj
        have g8 := m4.getD (by decide) 8
        have P0 := hf.low
        (repeat' (first | (with_reducible refine i_ops ?_; first | (refine g_mv ?_; refine s_mv ?_) | refine o_nil ?_ | (refine g_pure ?_; first | refine s_nilck ?_ | refine s_fptr0 ?_ | refine s_wadd ?_ | refine s_wquoc ?_ | refine s_wremc ?_ | refine s_wmul ?_ | refine s_pure ?_) | (refine g_lload ?_; refine s_lloadV ?_) | (refine g_lstore ?_; refine s_lstoreV ?_) | (refine g_lindex ?_; refine s_lindex ?_) | (refine g_hload ?_; refine s_hloadP ?_)) | (with_reducible refine i_vc ?_; first | refine v_seq ?_ | refine v_ops ?_ | (refine g_cond ?_; refine s_cond_f ?_) | refine v_block ?_ | refine v_exit ?_ | refine s_drawl ?_) | (with_reducible first | refine n_then ?_ | refine e_then ?_ | refine e_block_eq qrf ?_)))
        have hd8 : (o.getD 8 0 + c) % 18446744073709551616 = o.getD 8 0 + c := by omega
        rw [hd8]
        have hq1 : (((o.set 8 ((o.getD 8 0 + c) % 4294967296)).set 9 ((o.getD 8 0 + c) / 4294967296))).length = 10 := by simpa using m3
        have hq2 : Dl 4294967296 ((o.set 8 ((o.getD 8 0 + c) % 4294967296)).set 9 ((o.getD 8 0 + c) / 4294967296)) := (m4.set 8 (Nat.mod_lt _ (by decide))).set 9 (by omega)
        have hq3 : val 4294967296 (((o.set 8 ((o.getD 8 0 + c) % 4294967296)).set 9 ((o.getD 8 0 + c) / 4294967296)).take 10) = val 4294967296 (row.take 9) + x * (fd 4294967296 8 y).getD i 0 := by
          rw [val_set_take _ _ (by simp; omega), val_set_take _ _ (by omega), val_take_succ _ row 8, ← m5 8 (by omega)]
          rw [fd8, val_fd8 hx] at m6
          have e1 : (4294967296 : Nat) ^ 9 = 4294967296 ^ 8 * 4294967296 := by decide
          have e2 : (4294967296 : Nat) ^ 8 * ((o.getD 8 0 + c) % 4294967296) + 4294967296 ^ 8 * 4294967296 * ((o.getD 8 0 + c) / 4294967296) = 4294967296 ^ 8 * o.getD 8 0 + 4294967296 ^ 8 * c := by
            rw [Nat.mul_assoc, ← Nat.mul_add, Nat.mod_add_div, Nat.mul_add]
          rw [e1]
          omega
        generalize (o.set 8 ((o.getD 8 0 + c) % 4294967296)).set 9 ((o.getD 8 0 + c) / 4294967296) = q at *
        have hu0 := hq2.getD (by decide) 0
        have hu : q.getD 0 0 * 1 % 18446744073709551616 % 4294967296 = q.getD 0 0 := by omega
        rw [hu]
        refine v_loopX (α := Nat × Nat × List Nat) (fun z => z.1 ≤ 8 ∧ z.2.1 < 4294967296 ∧ z.2.2.length = 10 ∧ Dl 4294967296 z.2.2 ∧ (∀ m, z.1 ≤ m → z.2.2.getD m 0 = q.getD m 0) ∧ ((z.1 = 0 ∧ z.2.1 = 0) ∨ ∃ j', z.1 = j' + 1 ∧ 4294967296 * val 4294967296 (z.2.2.take j') + 4294967296 ^ (j' + 1) * z.2.1 = val 4294967296 (q.take (j' + 1)) + val 4294967296 ((fd 4294967296 8 p256).take (j' + 1)) * q.getD 0 0))
          (fun z => [(0, .pointer (some ⟨b, 0, none⟩)), (4, .int .u64 0), (5, .int .u64 0), (6, .int .u64 0), (7, .int .u64 0), (8, iv .i64 i), (9, iv .u64 z.2.1), (13, iv .u64 (q.getD 0 0)), (14, iv .i64 z.1)]) (fun z => [(4, na (fd 4294967296 8 x)), (5, na (fd 4294967296 8 y)), (6, na [0, 0, 0, 0, 0, 0, 0, 0]), (7, na z.2.2)]) (fun _ => G) (fun z => 8 - z.1) (0, 0, q)
          ⟨Nat.zero_le _, show (0 : Nat) < 4294967296 by decide, hq1, hq2, fun _ _ => rfl, .inl ⟨rfl, rfl⟩⟩ qhs qhl rfl ?_
        rintro ⟨j, d, z⟩ s ll ⟨r1, r2, r3, r4, r5, r6⟩
        dsimp only at r1 r2 r3 r4 r5 r6
        dsimp only [SL.sets, AL.sets]
        have s1 := r4.getD (by decide) j
        have s2 := fd_lt (B := 4294967296) (by decide) 8 p256 j
        by_cases hj8 : j < 8
        · have hm := mul32 s2 hu0 s1 r2
          have P := hf.m hj8
          have e : (((z.getD j 0 + (fd 4294967296 8 p256).getD j 0 * q.getD 0 0 % 18446744073709551616) % 18446744073709551616 + d) % 18446744073709551616) = z.getD j 0 + (fd 4294967296 8 p256).getD j 0 * q.getD 0 0 + d := by
            generalize (fd 4294967296 8 p256).getD j 0 * q.getD 0 0 = p at *
            omega
          (repeat' (first | (with_reducible refine i_ops ?_; first | (refine g_mv ?_; refine s_mv ?_) | refine o_nil ?_ | (refine g_pure ?_; first | refine s_iptrA ?_ | refine s_nilck ?_ | refine s_fptr0 ?_ | refine s_naddc ?_ | refine s_nsubc ?_ | refine s_wadd ?_ | refine s_wquoc ?_ | refine s_wremc ?_ | refine s_wmul ?_ | refine s_pure ?_) | (refine g_lload ?_; refine s_lloadV ?_) | (refine g_lstore ?_; refine s_lstoreV ?_) | (refine g_lindex ?_; refine s_lindex ?_) | (refine g_hload ?_; refine s_hloadP ?_)) | (with_reducible refine i_vc ?_; first | refine v_seq ?_ | refine v_ops ?_ | (refine g_cond ?_; first | refine s_cond_t ?_ | refine s_cond_f ?_) | refine v_block ?_ | refine v_skip ?_ | refine v_exit ?_ | refine s_drawl ?_) | (with_reducible first | refine n_then ?_ | refine e_then ?_ | refine n_block ?_ | refine e_block_eq qrf ?_) | ((with_reducible refine s_cond_c ?_ ?_) <;> intro hb <;> rw [hb] <;> (try simp only [decide_eq_true_eq, decide_eq_false_iff_not, beq_iff_eq, bne_iff_ne, beq_eq_false_iff_ne, bne_eq_false_iff_eq, ne_eq, Int.not_lt, Int.not_le, gt_iff_lt, ge_iff_le, Bool.not_eq_true', Bool.not_eq_false'] at hb))))
          · simp only [e]
            obtain ⟨j', rfl, r7⟩ : ∃ j', j = j' + 1 ∧ 4294967296 * val 4294967296 (z.take j') + 4294967296 ^ (j' + 1) * d = val 4294967296 (q.take (j' + 1)) + val 4294967296 ((fd 4294967296 8 p256).take (j' + 1)) * q.getD 0 0 := by
              rcases r6 with ⟨h, _⟩ | h
              · omega
              · exact h
            have e7 := r5 (j' + 1) (Nat.le_refl _)
            have hst := down_step (z := (z.getD (j' + 1) 0 + (fd 4294967296 8 p256).getD (j' + 1) 0 * q.getD 0 0 + d) % 4294967296) (d := (z.getD (j' + 1) 0 + (fd 4294967296 8 p256).getD (j' + 1) 0 * q.getD 0 0 + d) / 4294967296) r7 (by omega) (by rw [Nat.mod_add_div, e7])
            refine ⟨8 - (j' + 1 + 1), by omega, (j' + 1 + 1, (z.getD (j' + 1) 0 + (fd 4294967296 8 p256).getD (j' + 1) 0 * q.getD 0 0 + d) / 4294967296, z.set j' ((z.getD (j' + 1) 0 + (fd 4294967296 8 p256).getD (j' + 1) 0 * q.getD 0 0 + d) % 4294967296)), rfl, ⟨by dsimp only; omega, by dsimp only; omega, by simpa using r3, r4.set _ (Nat.mod_lt _ (by decide)), fun m hm' => ?_, .inr ⟨j' + 1, rfl, hst⟩⟩, qhs, qhl, rfl⟩
            dsimp only at hm' ⊢
            rw [set_getD_ne z (by omega)]; exact r5 m (by omega)
          · simp only [e]
            have hj0 : j = 0 := by omega
            subst hj0
            have hd0 : d = 0 := by
              rcases r6 with ⟨_, h⟩ | ⟨j', h, _⟩
              · exact h
              · omega
            subst hd0
            have e7 := r5 0 (Nat.le_refl _)
            have eM : (fd 4294967296 8 p256).getD 0 0 = 4294967295 := by decide
            have hst := down_zero (B := 4294967296) (q := q) (m := fd 4294967296 8 p256) (u := q.getD 0 0) (d := (z.getD 0 0 + (fd 4294967296 8 p256).getD 0 0 * q.getD 0 0 + 0) / 4294967296) (by rw [eM, e7]; omega)
            have et : z.take 0 = q.take 0 := rfl
            rw [← et] at hst
            refine ⟨8 - (0 + 1), by omega, (0 + 1, (z.getD 0 0 + (fd 4294967296 8 p256).getD 0 0 * q.getD 0 0 + 0) / 4294967296, z), rfl, ⟨by dsimp only; omega, by dsimp only; omega, r3, r4, fun m hm' => r5 m (by dsimp only at hm'; omega), .inr ⟨0, rfl, hst⟩⟩, qhs, qhl, rfl⟩
          · omega
        · have hj : j = 8 := by omega
          subst hj
          have s8 := r4.getD (by decide) 8
          have s9 := r4.getD (by decide) 9
          have e8 := r5 8 (by omega)
          have e9 := r5 9 (by omega)
          obtain ⟨j', hj', r7⟩ : ∃ j', 8 = j' + 1 ∧ 4294967296 * val 4294967296 (z.take j') + 4294967296 ^ (j' + 1) * d = val 4294967296 (q.take (j' + 1)) + val 4294967296 ((fd 4294967296 8 p256).take (j' + 1)) * q.getD 0 0 := by
            rcases r6 with ⟨h, _⟩ | h
            · omega
            · exact h
          have hj7 : j' = 7 := by omega
          subst hj7
          have hz8 : (z.getD 8 0 + d) % 18446744073709551616 = z.getD 8 0 + d := by omega
          have hz9 : (z.getD 9 0 + (z.getD 8 0 + d) / 4294967296) % 18446744073709551616 = z.getD 9 0 + (z.getD 8 0 + d) / 4294967296 := by omega
          (repeat' (first | (with_reducible refine i_ops ?_; first | (refine g_mv ?_; refine s_mv ?_) | refine o_nil ?_ | (refine g_pure ?_; first | refine s_naddc ?_ | refine s_wadd ?_ | refine s_wquoc ?_ | refine s_wremc ?_ | refine s_pure ?_) | (refine g_lload ?_; refine s_lloadV ?_) | (refine g_lstore ?_; refine s_lstoreV ?_) | (refine g_lindex ?_; refine s_lindex ?_)) | (with_reducible refine i_vc ?_; first | refine v_seq ?_ | refine v_ops ?_ | (refine g_cond ?_; refine s_cond_f ?_) | refine v_exit ?_) | (with_reducible first | refine n_then ?_ | refine e_then ?_ | refine n_block ?_ | refine e_block_eq qrf ?_)))
          simp only [hz8, set_getD_ne z (show 7 ≠ 9 by decide), hz9]
          have hend := down_end (y := z.getD 9 0) (z := (z.getD 8 0 + d) % 4294967296) (d := (z.getD 8 0 + d) / 4294967296) r7 (by omega) (by rw [Nat.mod_add_div, e8])
          rw [fd8, val_fd8 p_lt, e9] at hend
          rw [val_take_succ _ q 9, val_take_succ _ q 8] at hq3
          have hv4 : val 4294967296 (((z.set 7 ((z.getD 8 0 + d) % 4294967296)).set 8 (z.getD 9 0 + (z.getD 8 0 + d) / 4294967296)).take 9) * 4294967296 = val 4294967296 (row.take 9) + x * (fd 4294967296 8 y).getD i 0 + q.getD 0 0 * p256 := by
            rw [← hq3, Nat.mul_comm (q.getD 0 0), e9]; exact hend
          have hlt := mont_lt (B := 4294967296) (by decide) k5 hyi hu0 hv4
          have h89 := val_take_succ 4294967296 ((z.set 7 ((z.getD 8 0 + d) % 4294967296)).set 8 (z.getD 9 0 + (z.getD 8 0 + d) / 4294967296)) 8
          rw [set_getD_eq _ (by simp; omega), b328] at h89
          refine ⟨8 - (i + 1), by omega, (i + 1, (z.set 7 ((z.getD 8 0 + d) % 4294967296)).set 8 (z.getD 9 0 + (z.getD 8 0 + d) / 4294967296), k + q.getD 0 0 * 4294967296 ^ i), rfl, ⟨by dsimp only; omega, by simpa using r3, (r4.set 7 (Nat.mod_lt _ (by decide))).set 8 (by omega), ?_, hlt, kNext k6 hu0⟩, qhs, qhl, rfl⟩
          dsimp only
          rw [val_take_succ _ (fd 4294967296 8 y)]
          exact mont_inv k4 hv4
    · omega
  · have hi : i = 8 := by omega
    subst hi
    have d8 := k3.getD (by decide) 8
    (repeat' (first | (with_reducible refine i_ops ?_; first | (refine g_mv ?_; refine s_mv ?_) | refine o_nil ?_ | (refine g_pure ?_; refine s_pure ?_) | (refine g_lalloc ?_; refine s_lalloc ?_)) | (with_reducible refine i_vc ?_; first | refine v_seq ?_ | refine v_ops ?_ | (refine g_cond ?_; refine s_cond_f ?_) | refine v_block ?_ | refine v_exit ?_) | (with_reducible first | refine n_then ?_ | refine e_then ?_ | refine e_block_eq qrf ?_)))
    refine v_loopX (α := Nat × List Nat) (fun z => z.1 ≤ 8 ∧ z.2.length = 8 ∧ (∀ m, m < z.1 → z.2.getD m 0 = row.getD m 0))
      (fun z => [(0, .pointer (some ⟨b, 0, none⟩)), (6, .int .u64 0), (7, .int .u64 0), (15, .int .u64 0), (16, iv .i64 z.1)]) (fun z => [(6, na [0, 0, 0, 0, 0, 0, 0, 0]), (7, na row), (15, na z.2)]) (fun _ => G) (fun z => 8 - z.1) (0, [0, 0, 0, 0, 0, 0, 0, 0])
      ⟨Nat.zero_le _, rfl, fun m hm => absurd hm (by omega)⟩ qhs qhl rfl ?_
    rintro ⟨j, o⟩ s ll ⟨m1, m2, m3⟩
    dsimp only at m1 m2 m3
    dsimp only [SL.sets, AL.sets]
    by_cases hj8 : j < 8
    · (repeat' (first | (with_reducible refine i_ops ?_; first | (refine g_mv ?_; refine s_mv ?_) | refine o_nil ?_ | (refine g_some ?_; first | refine s_g_t ?_ | refine s_g_f' ?_) | (refine g_pick ?_; refine s_pick_t ?_) | (refine g_pure ?_; first | refine s_nilck ?_ | refine s_fptr0 ?_ | refine s_naddc ?_ | refine s_pure ?_) | (refine g_lload ?_; first | refine s_lloadV ?_ | refine s_lloadW ?_) | (refine g_lstore ?_; refine s_lstoreV ?_) | (refine g_lindex ?_; refine s_lindex ?_)) | (with_reducible refine i_vc ?_; first | refine v_seq ?_ | refine v_ops ?_ | (refine g_cond ?_; first | refine s_cond_t ?_ | refine s_cond_f ?_) | refine v_block ?_ | refine v_skip ?_ | refine v_exit ?_ | refine v_draw0 ?_) | (with_reducible refine i_plan ?_; first | refine p_done ?_ | refine s_pre ?_ | refine s_ag_f ?_) | (with_reducible first | refine n_then ?_ | refine e_then ?_ | refine n_block ?_ | refine e_block_eq qrf ?_) | ((with_reducible first | refine s_g_c ?_ ?_ | refine s_cond_c ?_ ?_) <;> intro hb <;> rw [hb] <;> (try simp only [decide_eq_true_eq, decide_eq_false_iff_not, beq_iff_eq, bne_iff_ne, beq_eq_false_iff_ne, bne_eq_false_iff_eq, ne_eq, Int.not_lt, Int.not_le, gt_iff_lt, ge_iff_le, Bool.not_eq_true', Bool.not_eq_false'] at hb))))
      · refine ⟨8 - (j + 1), by omega, (j + 1, o.set j (row.getD j 0)), rfl, ⟨by dsimp only; omega, by simpa using m2, fun m hm => ?_⟩, qhs, qhl, rfl⟩
        dsimp only at hm ⊢
        by_cases e : m = j
        · subst e; rw [set_getD_eq o (by omega)]
        · rw [set_getD_ne o (by omega)]; exact m3 m (by omega)
      all_goals omega
    · have hj : j = 8 := by omega
      subst hj
      have eo : o = fd 4294967296 8 (val 4294967296 (row.take 8)) := by
        rw [← fd_of (k3.take 8) (by rw [List.length_take]; omega) rfl]
        exact ext_getD (by rw [List.length_take]; omega) fun m hm => by rw [m3 m (by omega), getD_take row (by omega)]
      have hn : val 4294967296 (row.take 8) < 115792089237316195423570985008687907853269984665640564039457584007913129639936 := by
        have := val_lt (k3.take 8)
        rw [List.length_take, show min 8 row.length = 8 by omega, b328] at this; exact this
      subst eo
      rw [fd8, val_fd8 hy, b328] at k4
      rw [b328] at k6
      have hR := val_take_succ 4294967296 row 8
      rw [b328] at hR
      rw [show 8 + 1 = 9 from rfl] at hR
      generalize val 4294967296 (row.take 8) = n at *
      have hlt : val 4294967296 (row.take 9) < 2 * p256 := by
        have h1 : k * p256 ≤ 115792089237316195423570985008687907853269984665640564039457584007913129639935 * p256 := Nat.mul_le_mul_right _ (by omega)
        generalize x * y = p at *
        omega
      have hm := mM_of (t := val 4294967296 (row.take 9) % p256) (a := x) (b := y) (Nat.mod_lt _ p_pos) (by
        rw [Nat.mul_mod, Nat.mod_mod, ← Nat.mul_mod, k4, Nat.add_mul_mod_self_right])
      have hmod : mM x y = if val 4294967296 (row.take 9) < p256 then val 4294967296 (row.take 9) else val 4294967296 (row.take 9) - p256 := by
        rw [← hm]
        split
        · exact Nat.mod_eq_of_lt (by assumption)
        · rw [Nat.mod_eq_sub_mod (by omega), Nat.mod_eq_of_lt (by omega)]
      have PW := hf.mw
      have ln := fd_len 4294967296 8 n
      have ln2 := fd_len 4294967296 8 ((n + (115792089237316195423570985008687907853269984665640564039457584007913129639936 - p256)) % 115792089237316195423570985008687907853269984665640564039457584007913129639936)
      (repeat' (first | (with_reducible refine i_ops ?_; first | (refine g_mv ?_; refine s_mv ?_) | refine o_nil ?_ | (refine g_some ?_; first | refine s_g_t ?_ | refine s_g_f' ?_) | (refine g_pick ?_; first | refine s_pick_t ?_ | refine s_pick_f ?_) | (refine g_pure ?_; first | refine s_nilck ?_ | refine s_fptr0 ?_ | refine s_pure ?_) | (refine g_lload ?_; first | refine s_lloadV ?_ | refine s_lloadW ?_) | (refine g_lstore ?_; refine s_lstoreW ?_) | (refine g_lindex ?_; refine s_lindex ?_) | (refine g_hload ?_; refine s_hloadP ?_)) | (with_reducible refine i_vc ?_; first | refine v_seq ?_ | refine v_ops ?_ | (refine g_cond ?_; first | refine s_cond_t ?_ | refine s_cond_f ?_) | refine v_skip ?_ | refine v_exit ?_ | refine v_ret ?_ | refine v_draw0 ?_) | (with_reducible refine i_plan ?_; first | refine p_done ?_ | refine s_pre ?_ | refine s_ag_t ?_ | refine s_ag_f ?_ | refine p_callp qrf (by first | exact lessR n p256 G hn p_lt | exact minusR n p256 G hn p_lt) qle ?_ p_no | refine s_alt ?_) | (with_reducible first | refine n_then ?_ | refine e_then ?_ | refine e_block_eq qrf ?_ | (refine g_stand ?_; first | refine s_stand ?_ | refine s_standL ?_)) | ((with_reducible first | refine s_g_c ?_ ?_ | refine s_cond_c ?_ ?_) <;> intro hb <;> rw [hb] <;> (try simp only [decide_eq_true_eq, decide_eq_false_iff_not, beq_iff_eq, bne_iff_ne, beq_eq_false_iff_ne, bne_eq_false_iff_eq, ne_eq, Int.not_lt, Int.not_le, gt_iff_lt, ge_iff_le, Bool.not_eq_true', Bool.not_eq_false'] at hb)) | ((with_reducible refine s_ret ?_); try simp only [x_tup0, x_tup1, x_tup2, x_tup3, x_tup4, x_tup5, and_true, true_and])))
      all_goals rw [na_ext (fd_len _ _ _)]
      · have e : (n + (115792089237316195423570985008687907853269984665640564039457584007913129639936 - p256)) % 115792089237316195423570985008687907853269984665640564039457584007913129639936 = mM x y := by rw [hmod]; split <;> omega
        rw [e]
      · have e : (n + (115792089237316195423570985008687907853269984665640564039457584007913129639936 - p256)) % 115792089237316195423570985008687907853269984665640564039457584007913129639936 = mM x y := by rw [hmod]; split <;> omega
        rw [e]
      · have e : n = mM x y := by rw [hmod]; split <;> omega
        rw [← e]
end Go.Proofs.Ytdeihgcgglhhcaa.V
end
section
/- The document's reckoning modulo p, made. -/
set_option linter.unusedSimpArgs false
set_option linter.unusedVariables false
set_option maxRecDepth 20000
-- @nums
-- @extra s_nilck s_fptr0 s_naddc s_nadd s_nsubL s_nsubc s_wadd s_wsub s_waddL s_wsubL s_wquoc s_wremc s_wmul
-- @pre g_lload s_lloadV s_lloadVc s_lloadW
-- @pre g_lstore s_lstoreV s_lstoreVc s_lstoreW
-- @pre g_lbox s_lboxW
namespace Go.Proofs.Ytdeihgcgglhhcaa.V
open Go.RowKit Go.ChangeShapes Go.WideShapes
theorem wr_na : ∀ (ws l : List Nat) (q : Nat), q + ws.length ≤ l.length → wr (na l) q (ws.map (iv .u64)) = na (l.take q ++ (ws ++ l.drop (q + ws.length)))
  | [], l, q, h => by simp [wr]
  | w :: ws, l, q, h => by
    have h' : q + (ws.length + 1) ≤ l.length := h
    show wr ((na l).setIfInBounds q (iv .u64 w)) (q + 1) (ws.map (iv .u64)) = _
    have e : (na l).setIfInBounds q (iv .u64 w) = na (l.set q w) := by simp [na, List.map_set]
    rw [e, wr_na ws (l.set q w) (q + 1) (by simp; omega)]
    have e1 : (l.set q w).take (q + 1) = l.take q ++ [w] := by
      rw [getD_take_succ _ (by simp; omega), set_take, set_getD_eq _ (by omega)]
    have e2 : (l.set q w).drop (q + 1 + ws.length) = l.drop (q + (ws.length + 1)) := by
      rw [List.drop_set_of_lt (by omega), show q + 1 + ws.length = q + (ws.length + 1) by omega]
    rw [e1, e2, List.append_assoc]; rfl
theorem wr_mid (X W Y W' : List Nat) (h : W'.length = W.length) (q : Nat) (hq : X.length = q) : wr (na (X ++ (W ++ Y))) q (W'.map (iv .u64)) = na (X ++ (W' ++ Y)) := by
  subst hq
  rw [wr_na _ _ _ (by simp; omega), List.take_left, h, ← List.drop_drop, List.drop_left, List.drop_left]
theorem wr_low (o q l l' : Nat) : wr (oc p256 o q l) 24 [iv .u64 l'] = oc p256 o q l' := by
  have := wr_mid (fd 4294967296 8 p256 ++ (fd 4294967296 8 o ++ fd 4294967296 8 q)) [l] [] [l'] rfl 24 (by simp [fd_len])
  simpa [oc, List.append_assoc] using this
theorem wr_one (o q l o' : Nat) : wr (oc p256 o q l) 8 ((fd 4294967296 8 o').map (iv .u64)) = oc p256 o' q l :=
  wr_mid (fd 4294967296 8 p256) (fd 4294967296 8 o) _ (fd 4294967296 8 o') (by simp [fd_len]) 8 (fd_len _ _ _)
theorem wr_sq (o q l q' : Nat) : wr (oc p256 o q l) 16 ((fd 4294967296 8 q').map (iv .u64)) = oc p256 o q' l := by
  have := wr_mid (fd 4294967296 8 p256 ++ fd 4294967296 8 o) (fd 4294967296 8 q) [l] (fd 4294967296 8 q') (by simp [fd_len]) 16 (by simp [fd_len])
  simpa only [oc, List.append_assoc] using this
theorem oc_size (o q l : Nat) : (oc p256 o q l).size = 25 := by simp [oc, fd_len]
def xt : Nat → Nat
  | 0 => 1 | 1 => 3 | 2 => 15 | 3 => 255 | 4 => 65535 | _ => 4294967295
theorem xt_step {i : Nat} (h : i < 5) : (xt i * ((4294967298 + 18446744073709551616 - (4294967295 * xt i % 18446744073709551616 % 4294967296)) % 18446744073709551616) % 18446744073709551616) % 4294967296 = xt (i + 1) := by
  match i, h with
  | 0, _ | 1, _ | 2, _ | 3, _ | 4, _ => rfl
theorem xt_lt (i : Nat) : xt i < 4294967296 := by
  unfold xt; split <;> decide
def dq : Nat → Nat
  | 0 => 115792089237316195423570985008687907853269984665640564039457584007913129639936 % p256
  | i + 1 => (dq i + dq i) % p256
theorem dq_lt : ∀ i, dq i < p256
  | 0 => Nat.mod_lt _ p_pos
  | i + 1 => Nat.mod_lt _ p_pos
theorem dq_end : dq 256 = sq256 := by kernel_rfl
theorem newR (G : GH) : HC Try.prog 39 #[fw p256] G fun v G' => ∃ b, v = .pointer (some ⟨b, 0, none⟩) ∧ G b = none ∧ G.le G' ∧ FQ G' b (115792089237316195423570985008687907853269984665640564039457584007913129639936 % p256) sq256 := by
  have l3 := fd_len 4294967296 8 p256
  refine HC.start comp39 rfl ?_; unfold pc39
  (repeat' (first | (with_reducible refine i_ops ?_; first | (refine g_mv ?_; refine s_mv ?_) | refine o_nil ?_ | (refine g_lload ?_; refine s_lloadW ?_) | (refine g_lbox ?_; refine s_lboxW ?_)) | (with_reducible refine i_vc ?_; first | refine v_seq ?_ | refine v_ops ?_) | (with_reducible refine n_then ?_)))
  refine o_pure (vs := [fw p256]) (v := .agg (oc p256 0 0 0)) qrf (by kernel_rfl) ?_
  refine o_hbox (z := oc p256 0 0 0) qrf rfl ?_
  intro b hbn
  have c2 : ∀ G, HC Try.prog 59 #[.agg #[.int .u64 0, .int .u64 0, .int .u64 0, .int .u64 0, .int .u64 0, .int .u64 0, .int .u64 0, .int .u64 0], fw p256] G fun v G' => v = .tuple #[fw (115792089237316195423570985008687907853269984665640564039457584007913129639936 % p256), .bool true] ∧ G' = G := fun G => minusR 0 p256 G (by decide) p_lt
  (repeat' (first | (with_reducible refine i_ops ?_; first | (refine g_mv ?_; refine s_mv ?_) | refine o_nil ?_) | (with_reducible refine i_vc ?_; first | refine v_seq ?_ | refine v_ops ?_ | refine v_block ?_) | (with_reducible refine n_then ?_)))
  refine v_loopX (α := Nat) (fun i => i ≤ 5) (fun i => [(1, .int .u64 0), (3, .pointer (some ⟨b, 0, none⟩)), (4, iv .u64 (xt i)), (5, iv .i64 i)]) (fun _ => [(1, na (fd 4294967296 8 p256))]) (fun _ => _) (fun i => 5 - i) 0 (Nat.zero_le _) qhs qhl rfl ?_
  rintro i s ll k1
  dsimp only [SL.sets, AL.sets]
  have hx := xt_lt i
  have hm0 : (fd 4294967296 8 p256).getD 0 0 = 4294967295 := by decide
  by_cases hi5 : i < 5
  · have hst := xt_step hi5
    (repeat' (first | (with_reducible refine i_ops ?_; first | (refine g_mv ?_; refine s_mv ?_) | refine o_nil ?_ | (refine g_pure ?_; first | refine s_nilck ?_ | refine s_fptr0 ?_ | refine s_naddc ?_ | refine s_wsub ?_ | refine s_wremc ?_ | refine s_wmul ?_ | refine s_pure ?_) | (refine g_lload ?_; refine s_lloadV ?_) | (refine g_lindex ?_; refine s_lindex ?_)) | (with_reducible refine i_vc ?_; first | refine v_seq ?_ | refine v_ops ?_ | (refine g_cond ?_; first | refine s_cond_t ?_ | refine s_cond_f ?_) | refine v_block ?_ | refine v_skip ?_ | refine v_exit ?_) | (with_reducible first | refine n_then ?_ | refine e_then ?_ | refine n_block ?_ | refine e_block_eq qrf ?_) | ((with_reducible refine s_cond_c ?_ ?_) <;> intro hb <;> rw [hb] <;> (try simp only [decide_eq_true_eq, decide_eq_false_iff_not, beq_iff_eq, bne_iff_ne, beq_eq_false_iff_ne, bne_eq_false_iff_eq, ne_eq, Int.not_lt, Int.not_le, gt_iff_lt, ge_iff_le, Bool.not_eq_true', Bool.not_eq_false'] at hb))))
    · rw [hm0, hst]
      exact ⟨5 - (i + 1), by omega, i + 1, rfl, by omega, qhs, qhl, rfl⟩
    all_goals omega
  · have hi : i = 5 := by omega
    subst hi
    have e1 : (4294967296 + 18446744073709551616 - xt 5) % 18446744073709551616 % 4294967296 = 1 := rfl
    (repeat' (first | (with_reducible refine i_ops ?_; first | (refine g_mv ?_; refine s_mv ?_) | refine o_nil ?_ | (refine g_pure ?_; first | refine s_nilck ?_ | refine s_fptr0 ?_ | refine s_wsub ?_ | refine s_wremc ?_ | refine s_pure ?_)) | (with_reducible refine i_vc ?_; first | refine v_seq ?_ | refine v_ops ?_ | (refine g_cond ?_; refine s_cond_f ?_) | refine v_exit ?_) | (with_reducible first | refine n_then ?_ | refine e_then ?_ | refine e_block_eq qrf ?_)))
    rw [e1]
    refine o_hstore (vs := [iv .u64 1]) qrf (GH.put_same _ _ _) qrf rfl ⟨rfl, by rw [oc_size]; decide, rfl, .inl (Nat.zero_le _)⟩ ?_
    rw [put_put, wr_low]
    (repeat' (first | (with_reducible refine i_ops ?_; first | (refine g_mv ?_; refine s_mv ?_) | refine o_nil ?_ | (refine g_build ?_; refine s_buildP ?_) | (refine g_pure ?_; first | refine s_nilck ?_ | refine s_fptr0 ?_ | refine s_pure ?_) | (refine g_lload ?_; refine s_lloadW ?_) | refine o_callp qrf (by exact c2 _) ?_) | (with_reducible refine i_vc ?_; first | refine v_seq ?_ | refine v_ops ?_) | (with_reducible refine n_then ?_)))
    refine o_hstore (vs := (fd 4294967296 8 (115792089237316195423570985008687907853269984665640564039457584007913129639936 % p256)).map (iv .u64)) qrf (GH.put_same _ _ _) qrf rfl ⟨rfl, by rw [oc_size]; decide, nu_cells _ _, .inl (Nat.zero_le _)⟩ ?_
    rw [put_put, wr_one]
    generalize hH : G.put b _ = H
    have F1 : FQ H b (115792089237316195423570985008687907853269984665640564039457584007913129639936 % p256) 0 := ⟨_, _, by rw [← hH]; exact GH.put_same _ _ _⟩
    have P1 := F1.one
    (repeat' (first | (with_reducible refine i_ops ?_; first | (refine g_mv ?_; refine s_mv ?_) | refine o_nil ?_ | (refine g_pure ?_; first | refine s_nilck ?_ | refine s_fptr0 ?_) | (refine g_hload ?_; refine s_hloadP ?_)) | (with_reducible refine i_vc ?_; first | refine v_seq ?_ | refine v_ops ?_) | (with_reducible refine n_then ?_)))
    subst hH
    refine o_hstore (vs := (fd 4294967296 8 (115792089237316195423570985008687907853269984665640564039457584007913129639936 % p256)).map (iv .u64)) qrf (GH.put_same _ _ _) qrf rfl ⟨rfl, by rw [oc_size]; decide, nu_cells _ _, .inl (Nat.zero_le _)⟩ ?_
    rw [put_put, wr_sq]
    (repeat' (first | (with_reducible refine i_ops ?_; first | (refine g_mv ?_; refine s_mv ?_) | refine o_nil ?_) | (with_reducible refine i_vc ?_; first | refine v_seq ?_ | refine v_ops ?_ | refine v_block ?_) | (with_reducible refine n_then ?_)))
    refine v_loopX (α := Nat × GH) (fun y => y.1 ≤ 256 ∧ ∃ e, y.2 = G.put b (.cells (oc p256 (115792089237316195423570985008687907853269984665640564039457584007913129639936 % p256) (dq y.1) 1) e)) (fun y => [(1, .int .u64 0), (3, .pointer (some ⟨b, 0, none⟩)), (6, iv .i64 y.1)]) (fun _ => []) (fun y => y.2) (fun y => 256 - y.1) (0, _) ⟨Nat.zero_le _, _, rfl⟩ qhs trivial rfl ?_
    clear F1 P1
    rintro ⟨i, H⟩ s ll ⟨k2, e, k3⟩
    dsimp only at k2 k3
    dsimp only [SL.sets, AL.sets]
    have hGH : G.le H := by rw [k3]; exact GH.le_put _ hbn
    have F1 : FQ H b (115792089237316195423570985008687907853269984665640564039457584007913129639936 % p256) (dq i) := ⟨_, _, by rw [k3]; exact GH.put_same _ _ _⟩
    have P1 := F1.sq
    have c3 := addR b (dq i) (dq i) H F1.fo (dq_lt i) (dq_lt i)
    have hGb : H b = some (.cells (oc p256 (115792089237316195423570985008687907853269984665640564039457584007913129639936 % p256) (dq i) 1) e) := by rw [k3]; exact GH.put_same _ _ _
    (repeat' (first | (with_reducible refine i_ops ?_; first | (refine g_mv ?_; refine s_mv ?_) | refine o_nil ?_ | (refine g_pure ?_; first | refine s_nilck ?_ | refine s_fptr0 ?_ | refine s_pure ?_) | (refine g_hload ?_; refine s_hloadP ?_)) | (with_reducible refine i_vc ?_; first | refine v_seq ?_ | refine v_ops ?_ | (refine g_cond ?_; first | refine s_cond_t ?_ | refine s_cond_f ?_) | refine v_block ?_ | refine v_skip ?_ | refine v_exit ?_ | refine v_ret ?_ | refine v_drawG G qle ?_) | (with_reducible refine i_plan ?_; first | refine s_preN ?_ | refine p_callp qrf (by exact c3) qle ?_ p_no | refine s_alt ?_ | refine p_alt ?_ ?_) | (with_reducible first | refine n_then ?_ | refine e_then ?_ | refine e_block_eq qrf ?_ | (refine g_stand ?_; refine s_stand ?_)) | ((with_reducible refine s_cond_c ?_ ?_) <;> intro hb <;> rw [hb] <;> (try simp only [decide_eq_true_eq, decide_eq_false_iff_not, beq_iff_eq, bne_iff_ne, beq_eq_false_iff_ne, bne_eq_false_iff_eq, ne_eq, Int.not_lt, Int.not_le, gt_iff_lt, ge_iff_le, Bool.not_eq_true', Bool.not_eq_false'] at hb)) | ((with_reducible refine s_ret ?_); try simp only [x_tup0, x_tup1, x_tup2, x_tup3, x_tup4, x_tup5, and_true, true_and])))
    · refine o_hstore (vs := (fd 4294967296 8 ((dq i + dq i) % p256)).map (iv .u64)) qrf hGb qrf rfl ⟨rfl, by rw [oc_size]; decide, nu_cells _ _, .inl (Nat.zero_le _)⟩ ?_
      rw [wr_sq]
      have hle2 : G.le (H.put b (.cells (oc p256 (115792089237316195423570985008687907853269984665640564039457584007913129639936 % p256) ((dq i + dq i) % p256) 1) e)) := by rw [k3, put_put]; exact GH.le_put _ hbn
      (repeat' (first | (with_reducible refine i_ops ?_; first | (refine g_mv ?_; refine s_mv ?_) | refine o_nil ?_ | (refine g_pure ?_; refine s_naddc ?_)) | (with_reducible refine i_vc ?_; refine v_ops ?_) | (with_reducible refine i_plan ?_; refine p_done ?_) | (with_reducible first | refine n_then ?_ | refine n_block ?_ | (refine g_stand ?_; refine s_stand ?_))))
      exact ⟨256 - (i + 1), by omega, (i + 1, _), rfl, ⟨by dsimp only; omega, e, by dsimp only; rw [k3, put_put]; rfl⟩, qhs, trivial, rfl⟩
    · refine o_hstore (vs := (fd 4294967296 8 ((dq i + dq i) % p256)).map (iv .u64)) qrf hGb qrf rfl ⟨rfl, by rw [oc_size]; decide, nu_cells _ _, .inl (Nat.zero_le _)⟩ ?_
      rw [wr_sq]
      have hle2 : G.le (H.put b (.cells (oc p256 (115792089237316195423570985008687907853269984665640564039457584007913129639936 % p256) ((dq i + dq i) % p256) 1) e)) := by rw [k3, put_put]; exact GH.le_put _ hbn
      (repeat' (first | (with_reducible refine i_ops ?_; first | (refine g_mv ?_; refine s_mv ?_) | refine o_nil ?_ | (refine g_pure ?_; refine s_naddc ?_)) | (with_reducible refine i_vc ?_; refine v_ops ?_) | (with_reducible refine i_plan ?_; refine p_done ?_) | (with_reducible first | refine n_then ?_ | refine n_block ?_ | (refine g_stand ?_; refine s_stand ?_))))
      exact ⟨256 - (i + 1), by omega, (i + 1, _), rfl, ⟨by dsimp only; omega, e, by dsimp only; rw [k3, put_put]; rfl⟩, qhs, trivial, rfl⟩
    have hi : i = 256 := by omega
    subst hi
    rw [dq_end] at F1
    exact ⟨b, rfl, hbn, hGH, F1⟩
end Go.Proofs.Ytdeihgcgglhhcaa.V
end
section
/- The document's reckoning, by the field's numbers. -/
set_option linter.unusedSimpArgs false
set_option linter.unusedVariables false
set_option maxRecDepth 20000
-- @nums
-- @extra s_nilck s_fptr0 s_naddc s_nadd s_nsubL s_nsubc s_nquoc s_nremc s_wshr s_wremc
-- @pre g_lload s_lloadM s_lloadV s_lloadVc s_lloadW
-- @pre g_lstore s_lstoreM s_lstoreV s_lstoreVc s_lstoreW
-- @pre g_lbox s_lboxM s_lboxW
namespace Go.Proofs.Ytdeihgcgglhhcaa.V
open Go.RowKit Go.ChangeShapes Go.WideShapes
def fm (x : Fp) : Value := fw (mo x)
section
variable {P : Program} {E : Env} {K : St → Prop} {r : List Stp} {dd : Option Nat} {L : SL} {A : AL} {G : GH}
theorem s_lloadM {d k s0 : Nat} {x : Fp} {cs : Array Value} (h : vops P E r K (S (.set d (fm x) L) A G)) (hp : L.get s0 = some (.int .u64 0) := by with_unfolding_all rfl) (hc : A.get k = some cs ∧ cs = (fm x).cells := by (refine ⟨by with_unfolding_all rfl, ?_⟩; with_reducible rfl)) : vops P E (⟨none, dd, .lload d k s0 8 true⟩ :: r) K (S L A G) :=
  o_lload hp hc.1 (by rw [hc.2]; exact x_takeA (cs := (fm x).cells) rfl) h
theorem s_lboxM {d k : Nat} {o : Operand} {x : Fp} {v : Value} {ts : List Nat} (h : vops P E r K (S (.set d (.int .u64 0) (.kill ts L)) (.set k (fm x).cells A) G)) (hx : evo L o = some v ∧ v = fm x := by (refine ⟨by with_unfolding_all rfl, ?_⟩; with_reducible rfl)) (ho : onceE E.env = true := by with_unfolding_all rfl) (hk : slotsOf E.env k = some ts := by with_unfolding_all rfl) : vops P E (⟨none, dd, .lbox d k o⟩ :: r) K (S L A G) := o_lbox ho hk hx.1 (by rw [hx.2]) h
theorem s_lstoreM {k s0 : Nat} {o : Operand} {x : Fp} {v : Value} {cs : Array Value} (h : vops P E r K (S L (.set k (fm x).cells A) G)) (hp : L.get s0 = some (.int .u64 0) := by with_unfolding_all rfl) (hx : evo L o = some v ∧ v = fm x := by (refine ⟨by with_unfolding_all rfl, ?_⟩; with_reducible rfl)) (hc : A.get k = some cs ∧ cs.size = 8 := by (refine ⟨by with_unfolding_all rfl, by with_unfolding_all rfl⟩)) : vops P E (⟨none, dd, .lstore k s0 8 o⟩ :: r) K (S L A G) := by
  refine o_lstoreA (vs := (fd 4294967296 8 (mo x)).map (iv .u64)) (y := fm x) hp hc.1 (by rw [hx.1, hx.2]) rfl (by simp [fd_len]) hc.2.symm (nu_cells _ _) h
end
theorem fm_ext (x : Fp) : Value.agg ((fm x).cells.extract 0 8) = fm x := by
  have := na_ext (n := 8) (fd_len 4294967296 8 (mo x))
  show Value.agg ((na (fd 4294967296 8 (mo x))).extract 0 8) = fw (mo x)
  rw [this]
abbrev pf (b : Nat) : Value := .pointer (some ⟨b, 0, none⟩)
theorem addM (b : Nat) (x y : Fp) (G : GH) (hf : FO G b) : HC Try.prog 42 #[pf b, fm x, fm y] G fun v G' => v = fm (x + y) ∧ G' = G := by
  have := addR b (mo x) (mo y) G hf (mo_lt x) (mo_lt y)
  rwa [mo_add] at this
theorem subM (b : Nat) (x y : Fp) (G : GH) (hf : FO G b) : HC Try.prog 41 #[pf b, fm x, fm y] G fun v G' => v = fm (x - y) ∧ G' = G := by
  have := subR b (mo x) (mo y) G hf (mo_lt x) (Nat.le_of_lt (mo_lt y))
  rwa [mo_sub] at this
theorem mulM (b : Nat) (x y : Fp) (G : GH) (hf : FO G b) : HC Try.prog 40 #[pf b, fm x, fm y] G fun v G' => v = fm (x * y) ∧ G' = G := by
  have := mulR b (mo x) (mo y) G hf (mo_ltT x) (mo_ltT y) (Nat.mul_lt_mul_of_lt_of_le (mo_ltT x) (Nat.le_of_lt (mo_lt y)) p_pos)
  rwa [mo_mul] at this
theorem mulSqM (b n : Nat) (hn : n < 115792089237316195423570985008687907853269984665640564039457584007913129639936) (G : GH) (hf : FO G b) : HC Try.prog 40 #[pf b, fw n, fw sq256] G fun v G' => v = fm (of n) ∧ G' = G := by
  have := mulR b n sq256 G hf hn (by decide) (Nat.mul_lt_mul_of_lt_of_le hn (by decide) p_pos)
  rwa [mo_sq] at this
theorem mulOneM (b : Nat) (x : Fp) (G : GH) (hf : FO G b) : HC Try.prog 40 #[pf b, fm x, .agg #[.int .u64 1, .int .u64 0, .int .u64 0, .int .u64 0, .int .u64 0, .int .u64 0, .int .u64 0, .int .u64 0]] G fun v G' => v = fw x.val ∧ G' = G := by
  have := mulR b (mo x) 1 G hf (mo_ltT x) (by decide) (by have h : 1 ≤ p256 := p_pos; exact Nat.mul_lt_mul_of_lt_of_le (mo_ltT x) h p_pos)
  rw [mo_one] at this
  exact this
theorem zeroM (x : Fp) (G : GH) : HC Try.prog 60 #[fm x] G fun v G' => v = .bool (decide (x = 0)) ∧ G' = G := by
  have := zeroR (mo x) G (mo_ltT x)
  have e : decide (mo x = 0) = decide (x = 0) := by
    rw [decide_eq_decide]
    constructor
    · intro h
      exact mo_inj (h.trans (show (0 : Nat) = mo 0 by decide))
    · intro h; subst h; decide
  rwa [e] at this
theorem bitR (e j : Nat) (hj : j < 256) : (fd 4294967296 8 e).getD (j / 32) 0 / 2 ^ (j % 32) % 2 = e / 2 ^ j % 2 := by
  rw [fd_getD 4294967296 e (by omega)]
  have e1 : (4294967296 : Nat) ^ (j / 32) = 2 ^ (32 * (j / 32)) := by rw [Nat.pow_mul]
  have e2 : (4294967296 : Nat) = 2 ^ (j % 32) * 2 ^ (32 - j % 32) := by rw [← Nat.pow_add, show j % 32 + (32 - j % 32) = 32 by omega]
  rw [e1]
  conv => lhs; arg 1; arg 1; arg 2; rw [e2]
  rw [Nat.mod_mul_right_div_self, Nat.mod_mod_of_dvd _ (by rw [show 32 - j % 32 = (31 - j % 32) + 1 by omega, Nat.pow_succ]; exact Nat.dvd_mul_left _ _), Nat.div_div_eq_div_mul, ← Nat.pow_add, show 32 * (j / 32) + j % 32 = j by omega]
theorem invertM (b q : Nat) (x : Fp) (G : GH) (hf : FQ G b (115792089237316195423570985008687907853269984665640564039457584007913129639936 % p256) q) : HC Try.prog 61 #[pf b, fm x] G fun v G' => v = fm (finv x) ∧ G' = G := by
  have F := hf.fo
  have P1 := F.mw
  have P2 : PtR G (.pointer (some ⟨b, 8, none⟩)) 8 true (fm 1) := hf.one
  have le := fd_len 4294967296 8 inv256
  have c2 : ∀ G, HC Try.prog 59 #[fw p256, .agg #[.int .u64 2, .int .u64 0, .int .u64 0, .int .u64 0, .int .u64 0, .int .u64 0, .int .u64 0, .int .u64 0]] G fun v G' => v = .tuple #[fw inv256, .bool false] ∧ G' = G := fun G => minusR p256 2 G p_lt (by decide)
  refine HC.start comp61 rfl ?_; unfold pc61
  (repeat' (first | (with_reducible refine i_ops ?_; first | (refine g_mv ?_; refine s_mv ?_) | refine o_nil ?_ | (refine g_build ?_; refine s_buildP ?_) | (refine g_pure ?_; first | refine s_nilck ?_ | refine s_fptr0 ?_ | refine s_pure ?_) | (refine g_lstore ?_; first | refine s_lstoreM ?_ | refine s_lstoreA ?_) | (refine g_lalloc ?_; refine s_lalloc ?_) | (refine g_lbox ?_; refine s_lboxM ?_) | (refine g_hload ?_; refine s_hloadP ?_) | refine o_callp qrf (by exact c2 _) ?_) | (with_reducible refine i_vc ?_; first | refine v_seq ?_ | refine v_ops ?_ | refine v_block ?_) | (with_reducible refine n_then ?_)))
  refine v_loopX (α := Nat) (fun n => n ≤ 256)
    (fun n => [(0, pf b), (3, .int .u64 0), (4, .int .u64 0), (5, .int .u64 0), (7, .int .u64 0), (8, .int .i64 (if n = 0 then -1 else ((n - 1 : Nat) : Int)))]) (fun n => [(3, (fm x).cells), (4, na [0, 0, 0, 0, 0, 0, 0, 0]), (5, na (fd 4294967296 8 inv256)), (7, (fm (fpow x (inv256 / 2 ^ n))).cells)]) (fun _ => G) (fun n => n) 256
    (Nat.le_refl _) qhs ⟨AL.get_fn qrf, AL.get_fn qrf, AL.get_fn qrf, ?_, trivial⟩ rfl ?_
  · refine AL.get_fn ?_
    show _ = some (fm (fpow x (inv256 / 2 ^ 256))).cells
    rw [show inv256 / 2 ^ 256 = 0 by decide, fpow_zero]
    rfl
  rintro n s ll k1
  dsimp only [SL.sets, AL.sets]
  rcases n with _ | n
  · rw [if_pos rfl]
    (repeat' (first | (with_reducible refine i_ops ?_; first | (refine g_mv ?_; refine s_mv ?_) | refine o_nil ?_ | (refine g_pure ?_; refine s_pure ?_) | (refine g_lload ?_; refine s_lloadM ?_) | (refine g_lstore ?_; refine s_lstoreM ?_)) | (with_reducible refine i_vc ?_; first | refine v_seq ?_ | refine v_ops ?_ | (refine g_cond ?_; first | refine s_cond_t ?_ | refine s_cond_f ?_) | refine v_block ?_ | refine v_skip ?_ | refine v_exit ?_ | refine v_ret ?_) | (with_reducible first | refine n_then ?_ | refine e_then ?_ | refine e_block_eq qrf ?_) | ((with_reducible refine s_cond_c ?_ ?_) <;> intro hb <;> rw [hb] <;> (try simp only [decide_eq_true_eq, decide_eq_false_iff_not, beq_iff_eq, bne_iff_ne, beq_eq_false_iff_ne, bne_eq_false_iff_eq, ne_eq, Int.not_lt, Int.not_le, gt_iff_lt, ge_iff_le, Bool.not_eq_true', Bool.not_eq_false'] at hb)) | ((with_reducible refine s_ret ?_); try simp only [x_tup0, x_tup1, x_tup2, x_tup3, x_tup4, x_tup5, and_true, true_and])))
    · exact absurd hb (by decide)
    rw [fm_ext, Nat.pow_zero, Nat.div_one]; rfl
  · rw [if_neg (by omega), Nat.add_sub_cancel]
    have g := fd_lt (B := 4294967296) (by decide) 8 inv256 (n / 32)
    have c3 := mulM b (fpow x (inv256 / 2 ^ (n + 1))) (fpow x (inv256 / 2 ^ (n + 1))) G F
    have c4 := mulM b (fpow x (inv256 / 2 ^ (n + 1)) * fpow x (inv256 / 2 ^ (n + 1))) x G F
    have hbit := bitR inv256 n (by omega)
    have hst := fpow_step x (inv256 / 2 ^ n) (inv256 / 2 ^ (n + 1)) (by rw [Nat.div_div_eq_div_mul, ← Nat.pow_succ])
    have e : ((n : Nat) : Int) - 1 = if n = 0 then -1 else ((n - 1 : Nat) : Int) := by split <;> omega
    (repeat' (first | (with_reducible refine i_ops ?_; first | (refine g_mv ?_; refine s_mv ?_) | refine o_nil ?_ | (refine g_pure ?_; first | refine s_nquoc ?_ | refine s_nremc ?_ | refine s_wshr ?_ | refine s_wremc ?_ | refine s_pure ?_) | (refine g_lload ?_; first | refine s_lloadM ?_ | refine s_lloadV ?_) | (refine g_lstore ?_; refine s_lstoreM ?_) | (refine g_lindex ?_; refine s_lindex ?_) | refine o_callp qrf (by first | exact c3 | exact c4) ?_) | (with_reducible refine i_vc ?_; first | refine v_seq ?_ | refine v_ops ?_ | (refine g_cond ?_; first | refine s_cond_t ?_ | refine s_cond_f ?_) | refine v_block ?_ | refine v_skip ?_ | refine v_exit ?_ | refine v_ret ?_) | (with_reducible first | refine n_then ?_ | refine e_then ?_ | refine n_block ?_ | refine e_block_eq qrf ?_) | ((with_reducible refine s_cond_c ?_ ?_) <;> intro hb <;> rw [hb] <;> (try simp only [decide_eq_true_eq, decide_eq_false_iff_not, beq_iff_eq, bne_iff_ne, beq_eq_false_iff_ne, bne_eq_false_iff_eq, ne_eq, Int.not_lt, Int.not_le, gt_iff_lt, ge_iff_le, Bool.not_eq_true', Bool.not_eq_false'] at hb)) | ((with_reducible refine s_ret ?_); try simp only [x_tup0, x_tup1, x_tup2, x_tup3, x_tup4, x_tup5, and_true, true_and])))
    · rw [if_pos (by omega)] at hst
      rw [e]
      refine ⟨n, by omega, n, rfl, by omega, qhs, ⟨AL.get_fn qrf, AL.get_fn qrf, AL.get_fn qrf, ?_, trivial⟩, rfl⟩
      rw [hst]
      exact AL.get_fn qrf
    · rw [if_neg (by omega)] at hst
      rw [e]
      refine ⟨n, by omega, n, rfl, by omega, qhs, ⟨AL.get_fn qrf, AL.get_fn qrf, AL.get_fn qrf, ?_, trivial⟩, rfl⟩
      rw [hst]
      exact AL.get_fn qrf
    all_goals omega
end Go.Proofs.Ytdeihgcgglhhcaa.V
end
section
/- Points as they come in and go out. -/
set_option linter.unusedSimpArgs false
set_option linter.unusedVariables false
set_option maxRecDepth 20000
-- @nums
namespace Go.Proofs.Ytdeihgcgglhhcaa.V
open Go.RowKit Go.ChangeShapes Go.WideShapes
/-- A point: two rows of 32 bytes, and whether it is the far one. -/
def pcells (x y : List UInt8) (i : Bool) : Array Value := (x.map bv ++ (y.map bv ++ [Value.bool i])).toArray
def pnt (x y : List UInt8) (i : Bool) : Value := .agg (pcells x y i)
theorem pcells_size {x y : List UInt8} {i : Bool} (hx : x.length = 32) (hy : y.length = 32) : (pcells x y i).size = 65 := by simp [pcells, hx, hy]
theorem take_x {x y : List UInt8} {i : Bool} (hx : x.length = 32) : takeV true (pcells x y i) 0 32 = some (dK x) := by
  have h2 : 0 + 32 ≤ (pcells x y i).size := by simp [pcells, hx]
  show (if 0 + 32 ≤ (pcells x y i).size then some (Value.agg ((pcells x y i).extract 0 (0 + 32))) else none) = _
  rw [if_pos h2]
  congr 2
  simp only [pcells, List.extract_toArray, List.extract_eq_take_drop]
  congr 1
  simp [hx]
theorem take_y {x y : List UInt8} {i : Bool} (hx : x.length = 32) (hy : y.length = 32) : takeV true (pcells x y i) 32 32 = some (dK y) := by
  have h2 : 32 + 32 ≤ (pcells x y i).size := by simp [pcells, hx, hy]
  show (if 32 + 32 ≤ (pcells x y i).size then some (Value.agg ((pcells x y i).extract 32 (32 + 32))) else none) = _
  rw [if_pos h2]
  congr 2
  simp only [pcells, List.extract_toArray, List.extract_eq_take_drop]
  congr 1
  have e : (List.map bv x).length = 32 := by simp [hx]
  rw [List.drop_append_of_le_length (by omega), List.drop_of_length_le (by omega), List.nil_append]
  simp [hy]
theorem take_i {x y : List UInt8} {i : Bool} (hx : x.length = 32) (hy : y.length = 32) : takeV false (pcells x y i) 64 1 = some (.bool i) := by
  rw [x_take1]
  simp [pcells, hx, hy]
theorem take_p {x y : List UInt8} {i : Bool} (hx : x.length = 32) (hy : y.length = 32) : takeV true (pcells x y i) 0 65 = some (pnt x y i) := by
  exact x_takeA (cs := pcells x y i) (pcells_size hx hy)
theorem pcells_one (x y : List UInt8) (i : Bool) : cells1 (x.map bv ++ (y.map bv ++ [Value.bool i])) = true := by
  simp [cells1, bv, Value.oneCell']
section
variable {P : Program} {E : Env} {K : St → Prop} {r : List Stp} {dd : Option Nat} {L : SL} {A : AL} {G : GH} {x y : List UInt8} {i : Bool}
theorem s_lloadPX {d k s0 : Nat} (h : vops P E r K (S (.set d (dK x) L) A G)) (hp : L.get s0 = some (.int .u64 0) := by with_unfolding_all rfl) (hc : A.get k = some (pcells x y i) := by with_unfolding_all rfl) (hx : x.length = 32 := by assumption) : vops P E (⟨none, dd, .lload d k s0 32 true⟩ :: r) K (S L A G) := o_lload hp hc (take_x hx) h
theorem s_lloadPY {d k s0 : Nat} (h : vops P E r K (S (.set d (dK y) L) A G)) (hp : L.get s0 = some (.int .u64 32) := by with_unfolding_all rfl) (hc : A.get k = some (pcells x y i) := by with_unfolding_all rfl) (hx : x.length = 32 ∧ y.length = 32 := by constructor <;> assumption) : vops P E (⟨none, dd, .lload d k s0 32 true⟩ :: r) K (S L A G) := o_lload hp hc (take_y hx.1 hx.2) h
theorem s_lloadPI {d k s0 : Nat} (h : vops P E r K (S (.set d (.bool i) L) A G)) (hp : L.get s0 = some (.int .u64 64) := by with_unfolding_all rfl) (hc : A.get k = some (pcells x y i) := by with_unfolding_all rfl) (hx : x.length = 32 ∧ y.length = 32 := by constructor <;> assumption) : vops P E (⟨none, dd, .lload d k s0 1 false⟩ :: r) K (S L A G) := o_lload hp hc (take_i hx.1 hx.2) h
theorem s_lloadPP {d k s0 : Nat} (h : vops P E r K (S (.set d (pnt x y i) L) A G)) (hp : L.get s0 = some (.int .u64 0) := by with_unfolding_all rfl) (hc : A.get k = some (pcells x y i) := by with_unfolding_all rfl) (hx : x.length = 32 ∧ y.length = 32 := by constructor <;> assumption) : vops P E (⟨none, dd, .lload d k s0 65 true⟩ :: r) K (S L A G) := o_lload hp hc (take_p hx.1 hx.2) h
theorem s_lboxP {d k : Nat} {o : Operand} {ts : List Nat} (h : vops P E r K (S (.set d (.int .u64 0) (.kill ts L)) (.set k (pcells x y i) A) G)) (hx : evo L o = some (pnt x y i) := by with_unfolding_all rfl) (ho : onceE E.env = true := by with_unfolding_all rfl) (hk : slotsOf E.env k = some ts := by with_unfolding_all rfl) : vops P E (⟨none, dd, .lbox d k o⟩ :: r) K (S L A G) := o_lbox ho hk hx rfl h
theorem s_lstoreP {k s0 : Nat} {o : Operand} {cs : Array Value} (h : vops P E r K (S L (.set k (pcells x y i) A) G)) (hp : L.get s0 = some (.int .u64 0) := by with_unfolding_all rfl) (hx : evo L o = some (pnt x y i) := by with_unfolding_all rfl) (hc : A.get k = some cs ∧ cs.size = 65 := by (refine ⟨by with_unfolding_all rfl, ?_⟩; first | with_unfolding_all rfl | exact pcells_size (by assumption) (by assumption))) (hl : x.length = 32 ∧ y.length = 32 := by constructor <;> assumption) : vops P E (⟨none, dd, .lstore k s0 65 o⟩ :: r) K (S L A G) := by
  refine o_lstoreA (y := pnt x y i) hp hc.1 hx rfl (by simp [hl.1, hl.2]) hc.2.symm (pcells_one _ _ _) h
end
theorem p_ext {x y : List UInt8} {i : Bool} (hx : x.length = 32) (hy : y.length = 32) : Value.agg ((pcells x y i).extract 0 65) = pnt x y i := by
  have := pcells_size (i := i) hx hy
  rw [← this, Array.extract_size]; rfl
section
variable {L : SL} {A : AL} {G : GH} {x y : List UInt8} {i : Bool} {R : Value → GH → Prop}
theorem rvo_p {a k : Nat} (ha : L.get a = some (.int .u64 0)) (hk : A.get k = some (pcells x y i)) (hx : x.length = 32) (hy : y.length = 32) : rvo L A (.loc a k 65) = some (pnt x y i) := by
  have h1 : Nat.ble 65 (pcells x y i).size = true := by rw [pcells_size hx hy]; rfl
  simp only [rvo, ha, hk, h1, p_ext hx hy]
theorem s_retP1 {a k : Nat} {e : Exit} (h : R (pnt x y i) G) (he : e = .ret ∨ e = .normal := by first | exact .inl rfl | exact .inr rfl) (ha : L.get a = some (.int .u64 0) := by with_unfolding_all rfl) (hk : A.get k = some (pcells x y i) := by with_unfolding_all rfl) (hl : x.length = 32 ∧ y.length = 32 := by constructor <;> first | assumption | with_unfolding_all rfl) : endQ [.loc a k 65] R e (S L A G) := by
  rcases he with rfl | rfl
  · exact q_ret (vs := [pnt x y i]) (by simp only [rvos, rvo_p ha hk hl.1 hl.2]) h
  · exact q_normal (vs := [pnt x y i]) (by simp only [rvos, rvo_p ha hk hl.1 hl.2]) h
theorem s_retP2 {a k t : Nat} {v : Value} {e : Exit} (h : R (.tuple #[pnt x y i, v]) G) (he : e = .ret ∨ e = .normal := by first | exact .inl rfl | exact .inr rfl) (ha : L.get a = some (.int .u64 0) := by with_unfolding_all rfl) (hk : A.get k = some (pcells x y i) := by with_unfolding_all rfl) (ht : L.get t = some v := by with_unfolding_all rfl) (hl : x.length = 32 ∧ y.length = 32 := by constructor <;> first | assumption | with_unfolding_all rfl) : endQ [.loc a k 65, .slot t] R e (S L A G) := by
  have hr : rvos L A [.loc a k 65, .slot t] = some [pnt x y i, v] := by
    have e1 := rvo_p (L := L) (A := A) ha hk hl.1 hl.2
    have e2 : rvo L A (.slot t) = some v := ht
    simp only [rvos, e1, e2]
  rcases he with rfl | rfl
  · exact q_ret (vs := [pnt x y i, v]) hr h
  · exact q_normal (vs := [pnt x y i, v]) hr h
end
end Go.Proofs.Ytdeihgcgglhhcaa.V
end
section
/- Points and places: built, compared. -/
set_option linter.unusedSimpArgs false
set_option linter.unusedVariables false
set_option maxRecDepth 20000
-- @nums
namespace Go.Proofs.Ytdeihgcgglhhcaa.V
open Go.RowKit Go.ChangeShapes Go.WideShapes
theorem fold_wr : ∀ (vs : List Value) (o k : Nat) (cs : Array Value), (vs.zipIdx k).foldl (fun cs (x : Value × Nat) => cs.setIfInBounds (o + x.2) x.1) cs = wr cs (o + k) vs
  | [], o, k, cs => rfl
  | v :: vs, o, k, cs => by
    rw [List.zipIdx_cons, List.foldl_cons, fold_wr vs o (k + 1)]; rfl
theorem fold_wrA (vs : List Value) (o : Nat) (cs : Array Value) : vs.toArray.zipIdx.foldl (fun cs (x : Value × Nat) => cs.setIfInBounds (o + x.2) x.1) cs = wr cs o vs := by
  have := fold_wr vs o 0 cs
  rw [Nat.add_zero] at this
  rw [← this, ← Array.foldl_toList, Array.toList_zipIdx]
theorem wrV : ∀ (ws l : List Value) (q : Nat), q + ws.length ≤ l.length → wr l.toArray q ws = (l.take q ++ (ws ++ l.drop (q + ws.length))).toArray
  | [], l, q, h => by simp [wr]
  | w :: ws, l, q, h => by
    have h' : q + (ws.length + 1) ≤ l.length := h
    show wr (l.toArray.setIfInBounds q w) (q + 1) ws = _
    rw [List.setIfInBounds_toArray, wrV ws (l.set q w) (q + 1) (by simp; omega)]
    have e1 : (l.set q w).take (q + 1) = l.take q ++ [w] := by
      rw [List.take_succ_eq_append_getElem (by simp; omega), List.take_set_of_le (Nat.le_refl _)]
      simp
    have e2 : (l.set q w).drop (q + 1 + ws.length) = l.drop (q + (ws.length + 1)) := by
      rw [List.drop_set_of_lt (by omega), show q + 1 + ws.length = q + (ws.length + 1) by omega]
    rw [e1, e2, List.append_assoc]; rfl
theorem fill_step {o n : Nat} {ps : List (Nat × Nat)} {v : Value} {vs l ws : List Value} (hv : v.cells = ws.toArray) (hn : ws.length = n) (hl : o + n ≤ l.length) : fillV ((o, n) :: ps) (v :: vs) l.toArray = fillV ps vs (l.take o ++ (ws ++ l.drop (o + n))).toArray := by
  subst hn
  show (if v.cells.size ≠ ws.length ∨ o + v.cells.size > l.toArray.size then none else fillV ps vs (v.cells.zipIdx.foldl (fun cs (x : Value × Nat) => cs.setIfInBounds (o + x.2) x.1) l.toArray)) = _
  rw [hv, if_neg (by simp; omega), fold_wrA, wrV ws l o hl]
def z0 : List UInt8 := List.replicate 32 0
theorem z0_len : z0.length = 32 := rfl
def zp : List Value := List.replicate 64 (bv 0) ++ [.bool false]
theorem build3 {x y : List UInt8} {i : Bool} (hx : x.length = 32) (hy : y.length = 32) : pureV (.build zp.toArray [(0, 32), (32, 32), (64, 1)]) [dK x, dK y, .bool i] = some (pnt x y i) := by
  show (fillV _ _ zp.toArray).map Value.agg = _
  rw [fill_step (ws := x.map bv) rfl (by simp [hx]) (by simp [zp]), fill_step (ws := y.map bv) rfl (by simp [hy]) (by simp [zp, hx]), fill_step (n := 1) (ws := [.bool i]) rfl rfl (by simp [zp, hx, hy])]
  show some (Value.agg _) = some (Value.agg (pcells x y i))
  have e1 : List.take 64 (List.map bv x) = List.map bv x := List.take_of_length_le (by simp [hx])
  have e2 : List.drop 65 (List.map bv x) = [] := List.drop_of_length_le (by simp [hx])
  have e3 : List.drop 33 (List.map bv y) = [] := List.drop_of_length_le (by simp [hy])
  simp [pcells, zp, hx, hy, List.take_append, List.drop_append, e1, e2, e3]
theorem build2 {x y : List UInt8} (hx : x.length = 32) (hy : y.length = 32) : pureV (.build zp.toArray [(0, 32), (32, 32)]) [dK x, dK y] = some (pnt x y false) := by
  show (fillV _ _ zp.toArray).map Value.agg = _
  rw [fill_step (ws := x.map bv) rfl (by simp [hx]) (by simp [zp]), fill_step (ws := y.map bv) rfl (by simp [hy]) (by simp [zp, hx])]
  show some (Value.agg _) = some (Value.agg (pcells x y false))
  simp [pcells, zp, hx, hy, List.take_append, List.drop_append]
theorem build1 {i : Bool} : pureV (.build zp.toArray [(64, 1)]) [.bool i] = some (pnt z0 z0 i) := rfl
theorem build0 : pureV (.build zp.toArray []) [] = some (pnt z0 z0 false) := rfl
/-- Equal rows of bytes. -/
theorem eqSh_bca (xs ys : List UInt8) : ∀ n i, i + n = xs.length → xs.length = ys.length → eqSh (shN i n) (dK xs) (dK ys) = some (decide (xs.drop i = ys.drop i))
  | 0, i, h, hl => by
    rw [List.drop_of_length_le (by omega), List.drop_of_length_le (by omega)]; rfl
  | n + 1, i, h, hl => by
    have ih := eqSh_bca xs ys n (i + 1) (by omega) hl
    have h1 : i < xs.length := by omega
    have h2 : i < ys.length := by omega
    show (match takeV false (bca xs) i 1, takeV false (bca ys) i 1 with
      | some u, some v => match eqSh .leafI u v, eqSh (shN (i + 1) n) (dK xs) (dK ys) with
        | some a, some b => some (a && b)
        | _, _ => none
      | _, _ => none) = _
    rw [x_take1, x_take1, bca_get h1, bca_get h2]
    simp only [ih, bv, eqSh, kindEq, List.getD_eq_getElem?_getD, List.getElem?_eq_getElem h1, List.getElem?_eq_getElem h2, Option.getD_some, List.drop_eq_getElem_cons h1, List.drop_eq_getElem_cons h2, List.cons.injEq]
    show some ((((xs[i]).toNat : Int) == ((ys[i]).toNat : Int)) && decide (List.drop (i + 1) xs = List.drop (i + 1) ys)) = _
    congr 1
    rw [Bool.eq_iff_iff, Bool.and_eq_true, beq_iff_eq, decide_eq_true_eq, decide_eq_true_eq, Int.ofNat_inj, UInt8.toNat_inj]
def shP : Sh := .one 0 32 true (shN 0 32) (.one 32 32 true (shN 0 32) (.one 64 1 false .leafB .nil))
theorem eqSh_p {x y x' y' : List UInt8} {i i' : Bool} (hx : x.length = 32) (hy : y.length = 32) (hx' : x'.length = 32) (hy' : y'.length = 32) : eqSh shP (pnt x y i) (pnt x' y' i') = some (decide (x = x' ∧ y = y' ∧ i = i')) := by
  have e1 := eqSh_bca x x' 32 0 (by omega) (by omega)
  have e2 := eqSh_bca y y' 32 0 (by omega) (by omega)
  simp only [List.drop_zero] at e1 e2
  show (match takeV true (pcells x y i) 0 32, takeV true (pcells x' y' i') 0 32 with
    | some u, some v => match eqSh (shN 0 32) u v, (match takeV true (pcells x y i) 32 32, takeV true (pcells x' y' i') 32 32 with
        | some u, some v => match eqSh (shN 0 32) u v, (match takeV false (pcells x y i) 64 1, takeV false (pcells x' y' i') 64 1 with
            | some u, some v => match eqSh .leafB u v, some true with
              | some a, some b => some (a && b)
              | _, _ => none
            | _, _ => none) with
          | some a, some b => some (a && b)
          | _, _ => none
        | _, _ => none) with
      | some a, some b => some (a && b)
      | _, _ => none
    | _, _ => none) = _
  rw [take_x hx, take_x hx', take_y hx hy, take_y hx' hy', take_i hx hy, take_i hx' hy']
  simp only [e1, e2]
  show some (decide (x = x') && (decide (y = y') && ((i == i') && true))) = _
  congr 1
  rw [Bool.eq_iff_iff]
  simp
section
variable {P : Program} {E : Env} {K : St → Prop} {r : List Stp} {dd : Option Nat} {L : SL} {A : AL} {G : GH}
theorem s_bp3 {d : Nat} {z : Array Value} {xs : List Operand} {x y : List UInt8} {i : Bool} (h : vops P E r K (S (.set d (pnt x y i) L) A G)) (hx : evs L xs = some [dK x, dK y, .bool i] := by with_unfolding_all rfl) (hz : z = zp.toArray := by with_unfolding_all rfl) (hl : x.length = 32 ∧ y.length = 32 := by constructor <;> assumption) : vops P E (⟨none, dd, .pure d (.build z [(0, 32), (32, 32), (64, 1)]) xs⟩ :: r) K (S L A G) := by
  subst hz; exact o_pure hx (build3 hl.1 hl.2) h
theorem s_bp2 {d : Nat} {z : Array Value} {xs : List Operand} {x y : List UInt8} (h : vops P E r K (S (.set d (pnt x y false) L) A G)) (hx : evs L xs = some [dK x, dK y] := by with_unfolding_all rfl) (hz : z = zp.toArray := by with_unfolding_all rfl) (hl : x.length = 32 ∧ y.length = 32 := by constructor <;> first | assumption | exact beN_len _ _) : vops P E (⟨none, dd, .pure d (.build z [(0, 32), (32, 32)]) xs⟩ :: r) K (S L A G) := by
  subst hz; exact o_pure hx (build2 hl.1 hl.2) h
theorem s_bp1 {d : Nat} {z : Array Value} {xs : List Operand} {i : Bool} (h : vops P E r K (S (.set d (pnt z0 z0 i) L) A G)) (hx : evs L xs = some [.bool i] := by with_unfolding_all rfl) (hz : z = zp.toArray := by with_unfolding_all rfl) : vops P E (⟨none, dd, .pure d (.build z [(64, 1)]) xs⟩ :: r) K (S L A G) := by
  subst hz; exact o_pure hx build1 h
theorem s_bp0 {d : Nat} {z : Array Value} (h : vops P E r K (S (.set d (pnt z0 z0 false) L) A G)) (hz : z = zp.toArray := by with_unfolding_all rfl) : vops P E (⟨none, dd, .pure d (.build z []) []⟩ :: r) K (S L A G) := by
  subst hz; exact o_pure (vs := []) rfl build0 h
theorem s_eqP {d : Nat} {sh : Sh} {xs : List Operand} {x y x' y' : List UInt8} {i i' : Bool} (h : vops P E r K (S (.set d (.bool (decide (x = x' ∧ y = y' ∧ i = i'))) L) A G)) (hx : evs L xs = some [pnt x y i, pnt x' y' i'] := by with_unfolding_all rfl) (hs : sh = shP := by with_unfolding_all rfl) (hl : (x.length = 32 ∧ y.length = 32) ∧ x'.length = 32 ∧ y'.length = 32 := by (refine ⟨⟨?_, ?_⟩, ?_, ?_⟩ <;> first | assumption | exact z0_len | exact beN_len _ _)) : vops P E (⟨none, dd, .pure d (.eqA false sh) xs⟩ :: r) K (S L A G) := by
  subst hs
  exact o_pure hx (by rw [x_eqA, eqSh_p hl.1.1 hl.1.2 hl.2.1 hl.2.2]; rfl) h
theorem s_eqD {d : Nat} {sh : Sh} {xs : List Operand} {x y : List UInt8} (h : vops P E r K (S (.set d (.bool (decide (x = y))) L) A G)) (hx : evs L xs = some [dK x, dK y] := by with_unfolding_all rfl) (hs : sh = shN 0 32 := by with_unfolding_all rfl) (hl : x.length = 32 ∧ y.length = 32 := by constructor <;> first | assumption | exact z0_len | exact beN_len _ _) : vops P E (⟨none, dd, .pure d (.eqA false sh) xs⟩ :: r) K (S L A G) := by
  subst hs
  refine o_pure hx ?_ h
  have := eqSh_bca x y 32 0 (by omega) (by omega)
  rw [x_eqA, this]; rfl
theorem s_eqF {d : Nat} {sh : Sh} {xs : List Operand} {x y : Fp} {u v : Value} (h : vops P E r K (S (.set d (.bool (decide (x = y))) L) A G)) (hx : evs L xs = some [u, v] ∧ u = fv x ∧ v = fv y := by (refine ⟨by with_unfolding_all rfl, ?_, ?_⟩ <;> with_reducible rfl)) (hs : sh = shN 0 4 := by with_unfolding_all rfl) : vops P E (⟨none, dd, .pure d (.eqA false sh) xs⟩ :: r) K (S L A G) := by
  subst hs
  obtain ⟨hx, rfl, rfl⟩ := hx
  have := eq_fd 18446744073709551616 4 (mo x) (mo y) (mo_ltT x) (mo_ltT y)
  have e : decide (mo x = mo y) = decide (x = y) := by rw [decide_eq_decide]; exact ⟨mo_inj, fun h => by rw [h]⟩
  rw [e] at this
  exact o_pure hx this h
theorem s_eqM {d : Nat} {sh : Sh} {xs : List Operand} {x y : Fp} {u v : Value} (h : vops P E r K (S (.set d (.bool (decide (x = y))) L) A G)) (hx : evs L xs = some [u, v] ∧ u = fm x ∧ v = fm y := by (refine ⟨by with_unfolding_all rfl, ?_, ?_⟩ <;> with_reducible rfl)) (hs : sh = shN 0 8 := by with_unfolding_all rfl) : vops P E (⟨none, dd, .pure d (.eqA false sh) xs⟩ :: r) K (S L A G) := by
  subst hs
  obtain ⟨hx, rfl, rfl⟩ := hx
  have := eq_fd 4294967296 8 (mo x) (mo y) (mo_ltT x) (mo_ltT y)
  have e : decide (mo x = mo y) = decide (x = y) := by rw [decide_eq_decide]; exact ⟨mo_inj, fun h => by rw [h]⟩
  rw [e] at this
  exact o_pure hx this h
end
theorem k_trim {K : St → Prop} {L : SL} {A : AL} {G : GH} (kv : List (Nat × Value)) (la : List (Nat × Array Value)) (hs : hasS L.fn kv) (hl : hasL A.fn la) (h : ∀ s l, K (S (SL.sets s kv) (AL.sets l la) G)) : K (S L A G) := by
  rw [show S L A G = S (SL.sets L.fn kv) (AL.sets A.fn la) G from st_eq (st := S L A G) hs hl]
  exact h L.fn A.fn
end Go.Proofs.Ytdeihgcgglhhcaa.V
end
section
/- Is a point one of the curve: the program's at, the document's On. -/
set_option linter.unusedSimpArgs false
set_option linter.unusedVariables false
set_option maxRecDepth 20000
-- @nums
-- @extra s_eqP s_eqF s_eqM s_eqD s_nilck s_fptr0
-- @pre g_lload s_lloadL s_lloadF s_lloadM s_lloadPI s_lloadPX s_lloadPY s_lloadPP
-- @pre g_lstore s_lstoreL s_lstoreF s_lstoreM s_lstoreP
-- @pre g_lbox s_lboxF s_lboxP
-- @pre g_build s_bl3 s_bl1 s_bl0 s_bp3 s_bp2 s_bp1 s_bp0
namespace Go.Proofs.Ytdeihgcgglhhcaa.V
open Go.RowKit Go.ChangeShapes Go.WideShapes
/-- Do two numbers lie on the curve? -/
def onC (X Y : Fp) : Bool := decide (Y * Y = X * X * X - (X + X + X) + of co256)
def onP (x y : List UInt8) (i : Bool) : Bool := if i then decide (x = z0 ∧ y = z0) else decide (be x < p256) && (decide (be y < p256) && onC (of (be x)) (of (be y)))
theorem len4 (X : Fp) : ((fd 18446744073709551616 4 (mo X)).map (iv .u64)).length = 4 := by simp [fd_len]
/-- A place: three numbers. -/
def lcells (X Y Z : Fp) : Array Value := ((fd 18446744073709551616 4 (mo X)).map (iv .u64) ++ ((fd 18446744073709551616 4 (mo Y)).map (iv .u64) ++ (fd 18446744073709551616 4 (mo Z)).map (iv .u64))).toArray
def plc (X Y Z : Fp) : Value := .agg (lcells X Y Z)
theorem pure_build' (z : Array Value) (ps : List (Nat × Nat)) (vs : List Value) : pureV (.build z ps) vs = (fillV ps vs z).map .agg := rfl
def zl : List Value := List.replicate 12 (iv .u64 0)
theorem build_l3 {a b c : List Value} {u v w : Value} (hu : u.cells = a.toArray) (hv : v.cells = b.toArray) (hw : w.cells = c.toArray) (ha : a.length = 4) (hb : b.length = 4) (hc : c.length = 4) : pureV (.build zl.toArray [(0, 4), (4, 4), (8, 4)]) [u, v, w] = some (.agg (a ++ (b ++ c)).toArray) := by
  rw [pure_build', fill_step hu ha (by simp [zl]), fill_step hv hb (by simp [zl, ha]), fill_step hw hc (by simp [zl, ha, hb])]
  have e1 : List.take 8 a = a := List.take_of_length_le (by omega)
  have e2 : List.drop 12 a = [] := List.drop_of_length_le (by omega)
  have e3 : List.drop 8 b = [] := List.drop_of_length_le (by omega)
  show some (Value.agg _) = _
  simp [zl, List.take_append, List.drop_append, ha, hb, hc, e1, e2, e3]
theorem build_l1 {b : List Value} {v : Value} (hv : v.cells = b.toArray) (hb : b.length = 4) : pureV (.build zl.toArray [(4, 4)]) [v] = some (.agg ([iv .u64 0, iv .u64 0, iv .u64 0, iv .u64 0] ++ (b ++ [iv .u64 0, iv .u64 0, iv .u64 0, iv .u64 0])).toArray) := by
  rw [pure_build', fill_step hv hb (by simp [zl])]
  rfl
theorem fd_mo0 : (fd 18446744073709551616 4 (mo 0)).map (iv .u64) = [iv .u64 0, iv .u64 0, iv .u64 0, iv .u64 0] := rfl
theorem buildL3 (X Y Z : Fp) : pureV (.build zl.toArray [(0, 4), (4, 4), (8, 4)]) [fv X, fv Y, fv Z] = some (plc X Y Z) := build_l3 rfl rfl rfl (len4 X) (len4 Y) (len4 Z)
theorem buildL1 (Y : Fp) : pureV (.build zl.toArray [(4, 4)]) [fv Y] = some (plc 0 Y 0) := by
  have := build_l1 (v := fv Y) (b := (fd 18446744073709551616 4 (mo Y)).map (iv .u64)) rfl (len4 Y)
  rw [this]
  unfold plc lcells
  rw [fd_mo0]
theorem buildL0 : pureV (.build zl.toArray []) [] = some (plc 0 0 0) := by
  unfold plc lcells
  rw [fd_mo0]; rfl
theorem lc_size (X Y Z : Fp) : (lcells X Y Z).size = 12 := by simp [lcells, fd_len]
section
variable {P : Program} {E : Env} {K : St → Prop} {r : List Stp} {dd : Option Nat} {L : SL} {A : AL} {G : GH}
theorem s_bl3 {d : Nat} {z : Array Value} {xs : List Operand} {X Y Z : Fp} {u v w : Value} (h : vops P E r K (S (.set d (plc X Y Z) L) A G)) (hx : evs L xs = some [u, v, w] ∧ u = fv X ∧ v = fv Y ∧ w = fv Z := by (refine ⟨by with_unfolding_all rfl, ?_, ?_, ?_⟩ <;> with_reducible rfl)) (hz : z = zl.toArray := by with_unfolding_all rfl) : vops P E (⟨none, dd, .pure d (.build z [(0, 4), (4, 4), (8, 4)]) xs⟩ :: r) K (S L A G) := by
  subst hz
  obtain ⟨hx, rfl, rfl, rfl⟩ := hx
  exact o_pure hx (buildL3 X Y Z) h
theorem s_bl1 {d : Nat} {z : Array Value} {xs : List Operand} {Y : Fp} {u : Value} (h : vops P E r K (S (.set d (plc 0 Y 0) L) A G)) (hx : evs L xs = some [u] ∧ u = fv Y := by (refine ⟨by with_unfolding_all rfl, ?_⟩; with_reducible rfl)) (hz : z = zl.toArray := by with_unfolding_all rfl) : vops P E (⟨none, dd, .pure d (.build z [(4, 4)]) xs⟩ :: r) K (S L A G) := by
  subst hz
  obtain ⟨hx, rfl⟩ := hx
  exact o_pure hx (buildL1 Y) h
theorem s_bl0 {d : Nat} {z : Array Value} (h : vops P E r K (S (.set d (plc 0 0 0) L) A G)) (hz : z = zl.toArray := by with_unfolding_all rfl) : vops P E (⟨none, dd, .pure d (.build z []) []⟩ :: r) K (S L A G) := by
  subst hz
  exact o_pure (vs := []) rfl buildL0 h
theorem s_lstoreL {k s0 : Nat} {o : Operand} {X Y Z : Fp} {v : Value} {cs : Array Value} (h : vops P E r K (S L (.set k (lcells X Y Z) A) G)) (hp : L.get s0 = some (.int .u64 0) := by with_unfolding_all rfl) (hx : evo L o = some v ∧ v = plc X Y Z := by (refine ⟨by with_unfolding_all rfl, ?_⟩; with_reducible rfl)) (hc : A.get k = some cs ∧ cs.size = 12 := by (refine ⟨by with_unfolding_all rfl, ?_⟩; first | exact lc_size _ _ _ | with_unfolding_all rfl)) : vops P E (⟨none, dd, .lstore k s0 12 o⟩ :: r) K (S L A G) := by
  refine o_lstoreA (y := plc X Y Z) hp hc.1 (by rw [hx.1, hx.2]) rfl (by simp [fd_len]) hc.2.symm ?_ h
  simp [cells1, Value.oneCell']
theorem s_lloadL {d k s0 : Nat} {X Y Z : Fp} {cs : Array Value} (h : vops P E r K (S (.set d (plc X Y Z) L) A G)) (hp : L.get s0 = some (.int .u64 0) := by with_unfolding_all rfl) (hc : A.get k = some cs ∧ cs = lcells X Y Z := by (refine ⟨by with_unfolding_all rfl, ?_⟩; with_reducible rfl)) : vops P E (⟨none, dd, .lload d k s0 12 true⟩ :: r) K (S L A G) :=
  o_lload hp hc.1 (by rw [hc.2]; exact x_takeA (cs := lcells X Y Z) (lc_size X Y Z)) h
end
theorem l_ext (X Y Z : Fp) : Value.agg ((lcells X Y Z).extract 0 12) = plc X Y Z := by
  have h := lc_size X Y Z
  have := Array.extract_size (xs := lcells X Y Z)
  rw [h] at this
  rw [this]; rfl
/-- Where a point lies, or that it is none of the curve. -/
def atV (x y : List UInt8) (i : Bool) : Value := if i then .tuple #[plc 0 1 0, .bool (decide (x = z0 ∧ y = z0))] else if be x < p256 ∧ be y < p256 then .tuple #[plc (of (be x)) (of (be y)) 1, .bool (onC (of (be x)) (of (be y)))] else .tuple #[plc 0 0 0, .bool false]
theorem farF (G : GH) : HC Try.prog 33 #[] G fun v G' => v = plc 0 1 0 ∧ G.le G' := by
  refine HC.start comp33 rfl ?_; unfold pc33
  (repeat' (first | (with_reducible refine i_ops ?_; first | refine o_nil ?_ | (refine g_build ?_; first | refine s_bl1 ?_ | refine s_buildP ?_) | (refine g_lstore ?_; refine s_lstoreL ?_) | (refine g_lalloc ?_; refine s_lalloc ?_) | refine o_callp qrf (by exact squareK _) ?_ | (refine o_callg qrf (by exact timesSq1 _) ?_; intro G' hle)) | (with_reducible refine i_vc ?_; first | refine v_seq ?_ | refine v_ops ?_ | refine v_ret ?_) | (with_reducible refine n_then ?_) | ((with_reducible refine s_ret ?_); try simp only [x_tup0, x_tup1, x_tup2, x_tup3, x_tup4, x_tup5, and_true, true_and])))
  rw [l_ext]
  exact ⟨rfl, by assumption⟩
theorem atF (x y : List UInt8) (i : Bool) (G : GH) (hx : x.length = 32) (hy : y.length = 32) : HC Try.prog 34 #[pnt x y i] G fun v G' => v = atV x y i ∧ G.le G' := by
  refine HC.start comp34 rfl ?_; unfold pc34
  (repeat' (first | (with_reducible refine i_ops ?_; first | (refine g_mv ?_; refine s_mv ?_) | refine o_nil ?_ | (refine g_some ?_; first | refine s_g_t ?_ | refine s_g_f' ?_) | (refine g_pick ?_; first | refine s_pick_t ?_ | refine s_pick_f ?_) | (refine g_build ?_; first | refine s_bl3 ?_ | refine s_bl0 ?_ | refine s_bp1 ?_ | refine s_buildP ?_) | (refine g_pure ?_; first | refine s_eqP ?_ | refine s_eqF ?_ | refine s_pure ?_) | (refine g_lfield ?_; refine s_lfield ?_) | (refine g_lload ?_; first | refine s_lloadF ?_ | refine s_lloadPI ?_ | refine s_lloadPX ?_ | refine s_lloadPY ?_ | refine s_lloadPP ?_) | (refine g_lstore ?_; first | refine s_lstoreL ?_ | refine s_lstoreF ?_) | (refine g_lalloc ?_; refine s_lalloc ?_) | (refine g_lbox ?_; refine s_lboxP ?_) | refine o_callp qrf (by first | exact threeF _ _ | exact minusF _ _ _ | exact plusF _ _ _) ?_ | (refine o_callg qrf (by first | exact readF _ _ hx | exact readF _ _ hy | exact timesF _ _ _ | exact coefficientF _) ?_; intro G' hle)) | (with_reducible refine i_vc ?_; first | refine v_seq ?_ | refine v_ops ?_ | (refine g_cond ?_; first | refine s_cond_t ?_ | refine s_cond_f ?_) | refine v_skip ?_ | refine v_ret ?_ | refine v_draw0 ?_) | (with_reducible refine i_plan ?_; first | refine p_done ?_ | refine s_pre ?_ | refine s_preN ?_ | refine p_callp qrf (by first | exact threeF _ _ | exact minusF _ _ _ | exact plusF _ _ _ | exact squareK _) qle ?_ p_no | (refine p_callg qrf (by first | exact farF _ | exact timesF _ _ _ | exact coefficientF _ | exact timesSq1 _) qle ?_ p_no; intro G' hle) | refine s_alt ?_ | refine p_alt ?_ ?_) | (with_reducible first | refine n_then ?_ | refine r_then ?_ | (refine g_stand ?_; first | refine s_stand ?_ | refine s_standL ?_)) | ((with_reducible first | refine s_g_c ?_ ?_ | refine s_cond_c ?_ ?_) <;> intro hb <;> rw [hb] <;> (try simp only [decide_eq_true_eq, decide_eq_false_iff_not, beq_iff_eq, bne_iff_ne, beq_eq_false_iff_ne, bne_eq_false_iff_eq, ne_eq, Int.not_lt, Int.not_le, gt_iff_lt, ge_iff_le, Bool.not_eq_true', Bool.not_eq_false'] at hb)) | ((with_reducible refine s_ret ?_); try simp only [x_tup0, x_tup1, x_tup2, x_tup3, x_tup4, x_tup5, and_true, true_and])))
  all_goals rw [l_ext]
  all_goals refine ⟨?_, qle⟩
  · rw [atV, if_pos rfl]
  · rw [atV, if_neg (by decide), if_neg (by omega)]
  · rw [atV, if_neg (by decide), if_neg (by omega)]
  all_goals rw [atV, if_neg (by decide), if_pos ⟨by assumption, by assumption⟩]; rfl
end Go.Proofs.Ytdeihgcgglhhcaa.V
end
section
/- On the curve or not: both answers. -/
set_option linter.unusedSimpArgs false
set_option linter.unusedVariables false
set_option maxRecDepth 20000
-- @nums
-- @extra s_eqP s_eqF s_eqM s_eqD s_nilck s_fptr0
-- @pre g_lload s_lloadL s_lloadF s_lloadM s_lloadPI s_lloadPX s_lloadPY s_lloadPP s_lloadV s_lloadVc s_lloadW
-- @pre g_lstore s_lstoreL s_lstoreF s_lstoreM s_lstoreP s_lstoreV s_lstoreVc s_lstoreW
-- @pre g_lbox s_lboxF s_lboxP s_lboxW
-- @pre g_build s_bl3 s_bl1 s_bl0 s_bp3 s_bp2 s_bp1 s_bp0
namespace Go.Proofs.Ytdeihgcgglhhcaa.V
open Go.RowKit Go.ChangeShapes Go.WideShapes
theorem ext1_at (x y : List UInt8) (i : Bool) : pureV (.ext 1) [atV x y i] = some (.bool (onP x y i)) := by
  unfold atV onP
  cases i with
  | true => rfl
  | false =>
    simp only [Bool.false_eq_true, if_false]
    by_cases h1 : be x < p256
    · by_cases h2 : be y < p256
      · rw [if_pos ⟨h1, h2⟩, decide_eq_true h1, decide_eq_true h2]; rfl
      · rw [if_neg (by omega), decide_eq_false h2]; simp; rfl
    · rw [if_neg (by omega), decide_eq_false h1]; rfl
/-- The place that at tells. -/
def at3 (x y : List UInt8) (i : Bool) : Fp × Fp × Fp := if i then (0, 1, 0) else if be x < p256 ∧ be y < p256 then (of (be x), of (be y), 1) else (0, 0, 0)
theorem atV_eq (x y : List UInt8) (i : Bool) : atV x y i = .tuple #[plc (at3 x y i).1 (at3 x y i).2.1 (at3 x y i).2.2, .bool (onP x y i)] := by
  have h := ext1_at x y i
  unfold atV at3 at *
  cases i with
  | true => rfl
  | false =>
    simp only [Bool.false_eq_true, if_false] at *
    split
    · rename_i h1
      rw [if_pos h1] at h
      have : Value.bool (onC (of (be x)) (of (be y))) = .bool (onP x y false) := Option.some.inj h
      rw [← this]
    · rename_i h1
      rw [if_neg h1] at h
      have : Value.bool false = .bool (onP x y false) := Option.some.inj h
      rw [← this]
set_option maxHeartbeats 4000000 in
theorem onR (x y : List UInt8) (i : Bool) (G : GH) (hx : x.length = 32) (hy : y.length = 32) : HC Try.prog 15 #[pnt x y i] G fun v G' => v = .bool (onP x y i) ∧ G.le G' := by
  have hbx : be x < 115792089237316195423570985008687907853269984665640564039457584007913129639936 := by have := be_lt x; rw [hx] at this; exact this
  have hby : be y < 115792089237316195423570985008687907853269984665640564039457584007913129639936 := by have := be_lt y; rw [hy] at this; exact this
  have l1 := fd_len 4294967296 8 (be x)
  have l2 := fd_len 4294967296 8 (be y)
  refine HC.start comp15 rfl ?_; unfold pc15
  refine v_seq ?_
  generalize hQ : thenQ _ _ = Q'
  (repeat' (first | (with_reducible refine i_ops ?_; first | (refine g_mv ?_; refine s_mv ?_) | refine o_nil ?_ | (refine g_lbox ?_; refine s_lboxP ?_)) | (with_reducible refine i_vc ?_; refine v_ops ?_)))
  subst hQ
  refine n_then ?_
  refine v_seq ?_
  generalize hQ : thenQ _ _ = Q'
  (repeat' (first | (with_reducible refine i_ops ?_; first | (refine g_mv ?_; refine s_mv ?_) | refine o_nil ?_ | (refine g_build ?_; refine s_bp1 ?_) | (refine g_pure ?_; refine s_eqP ?_) | (refine g_lfield ?_; refine s_lfield ?_) | (refine g_lload ?_; first | refine s_lloadPI ?_ | refine s_lloadPP ?_)) | (with_reducible refine i_vc ?_; first | refine v_seq ?_ | refine v_ops ?_ | (refine g_cond ?_; first | refine s_cond_t ?_ | refine s_cond_f ?_) | refine v_skip ?_ | refine v_ret ?_) | (with_reducible refine n_then ?_) | ((with_reducible refine s_cond_c ?_ ?_) <;> intro hb <;> rw [hb] <;> (try simp only [decide_eq_true_eq, decide_eq_false_iff_not, beq_iff_eq, bne_iff_ne, beq_eq_false_iff_ne, bne_eq_false_iff_eq, ne_eq, Int.not_lt, Int.not_le, gt_iff_lt, ge_iff_le, Bool.not_eq_true', Bool.not_eq_false'] at hb))))
  · subst hQ
    refine r_then ?_
    ((with_reducible first | refine s_ret ?_ | refine s_normal ?_); try simp only [x_tup0, x_tup1, x_tup2, x_tup3, x_tup4, x_tup5, and_true, true_and])
    exact ⟨by rw [onP, if_pos hb], GH.le_refl _⟩
  subst hb
  subst hQ
  refine n_then ?_
  refine v_seq ?_
  generalize hQ : thenQ _ _ = Q'
  have tail : ∀ s l, Q' .normal (S (SL.sets s [(2, .bool false), (3, .int .u64 0), (4, .int .u64 0)]) (AL.sets l [(3, na (fd 4294967296 8 (be x))), (4, na (fd 4294967296 8 (be y)))]) G) := by
    intro s l
    subst hQ
    refine n_then ?_
    dsimp only [SL.sets, AL.sets]
    refine v_seq ?_
    generalize hQ : thenQ _ _ = Q'
    (repeat' (first | (with_reducible refine i_ops ?_; first | (refine g_mv ?_; refine s_mv ?_) | refine o_nil ?_ | (refine g_some ?_; first | refine s_g_t ?_ | refine s_g_f' ?_) | (refine g_pick ?_; first | refine s_pick_t ?_ | refine s_pick_f ?_) | (refine g_pure ?_; refine s_pure ?_) | (refine g_lload ?_; refine s_lloadW ?_)) | (with_reducible refine i_vc ?_; first | refine v_seq ?_ | refine v_ops ?_ | (refine g_cond ?_; first | refine s_cond_t ?_ | refine s_cond_f ?_) | refine v_skip ?_ | refine v_ret ?_ | refine v_draw0 ?_) | (with_reducible refine i_plan ?_; first | refine p_done ?_ | refine s_pre ?_ | refine s_ag_t ?_ | refine s_ag_f ?_ | refine p_callp qrf (by first | exact pR _ | exact lessR _ _ _ hbx p_lt | exact lessR _ _ _ hby p_lt) qle ?_ p_no) | (with_reducible refine n_then ?_) | ((with_reducible first | refine s_g_c ?_ ?_ | refine s_cond_c ?_ ?_) <;> intro hb <;> rw [hb] <;> (try simp only [decide_eq_true_eq, decide_eq_false_iff_not, beq_iff_eq, bne_iff_ne, beq_eq_false_iff_ne, bne_eq_false_iff_eq, ne_eq, Int.not_lt, Int.not_le, gt_iff_lt, ge_iff_le, Bool.not_eq_true', Bool.not_eq_false'] at hb))))
    · subst hQ
      refine r_then ?_
      ((with_reducible first | refine s_ret ?_ | refine s_normal ?_); try simp only [x_tup0, x_tup1, x_tup2, x_tup3, x_tup4, x_tup5, and_true, true_and])
      exact ⟨by rw [onP, if_neg (by decide), decide_eq_false hb]; rfl, GH.le_refl _⟩
    · subst hQ
      refine r_then ?_
      ((with_reducible first | refine s_ret ?_ | refine s_normal ?_); try simp only [x_tup0, x_tup1, x_tup2, x_tup3, x_tup4, x_tup5, and_true, true_and])
      exact ⟨by rw [onP, if_neg (by decide), decide_eq_false hb]; simp, GH.le_refl _⟩
    · subst hQ
      refine n_then ?_
      refine v_seq ?_
      generalize hQ : thenQ _ _ = Q'
      (repeat' (first | (with_reducible refine i_ops ?_; refine o_callp qrf (by exact pR _) ?_) | (with_reducible refine i_vc ?_; refine v_ops ?_)))
      refine o_callc qrf (newR G) ?_
      rintro _ G2 ⟨b, rfl, hb1, hle2, F⟩
      (repeat' (with_reducible refine i_ops ?_; first | (refine g_mv ?_; refine s_mv ?_) | refine o_nil ?_))
      have PS := F.sq
      have FO1 := F.fo
      subst hQ
      refine n_then ?_
      refine v_seq ?_
      generalize hQ : thenQ _ _ = Q'
      have tail : ∀ s l, Q' .normal (S (SL.sets s [(2, .bool false), (3, .int .u64 0), (4, .int .u64 0), (5, pf b)]) (AL.sets l [(3, (fm (of (be x))).cells), (4, (fm (of (be y))).cells)]) G2) := by
        intro s l
        subst hQ
        refine n_then ?_
        dsimp only [SL.sets, AL.sets]
        refine v_seq ?_
        generalize hQ : thenQ _ _ = Q'
        have tail : ∀ s l, Q' .normal (S (SL.sets s [(2, .bool false), (3, .int .u64 0), (4, .int .u64 0), (5, pf b), (6, .int .u64 0)]) (AL.sets l [(3, (fm (of (be x))).cells), (4, (fm (of (be y))).cells), (6, (fm ((of (be x)) * (of (be x)) * (of (be x)))).cells)]) G2) := by
          intro s l
          subst hQ
          refine n_then ?_
          dsimp only [SL.sets, AL.sets]
          refine v_seq ?_
          generalize hQ : thenQ _ _ = Q'
          have tail : ∀ s l, Q' .normal (S (SL.sets s [(2, .bool false), (3, .int .u64 0), (4, .int .u64 0), (5, pf b), (6, .int .u64 0)]) (AL.sets l [(3, (fm (of (be x))).cells), (4, (fm (of (be y))).cells), (6, (fm ((of (be x)) * (of (be x)) * (of (be x)) - ((of (be x)) + (of (be x)) + (of (be x))))).cells)]) G2) := by
            intro s l
            subst hQ
            refine n_then ?_
            dsimp only [SL.sets, AL.sets]
            refine v_seq ?_
            generalize hQ : thenQ _ _ = Q'
            have tail : ∀ s l, Q' .normal (S (SL.sets s [(2, .bool false), (3, .int .u64 0), (4, .int .u64 0), (5, pf b), (6, .int .u64 0)]) (AL.sets l [(3, (fm (of (be x))).cells), (4, (fm (of (be y))).cells), (6, (fm ((of (be x)) * (of (be x)) * (of (be x)) - ((of (be x)) + (of (be x)) + (of (be x))) + of co256)).cells)]) G2) := by
              intro s l
              subst hQ
              refine n_then ?_
              dsimp only [SL.sets, AL.sets]
              (repeat' (first | (with_reducible refine i_ops ?_; first | (refine g_mv ?_; refine s_mv ?_) | refine o_nil ?_ | (refine g_pure ?_; refine s_eqM ?_) | (refine g_lload ?_; refine s_lloadM ?_)) | (with_reducible refine i_vc ?_; first | refine v_seq ?_ | refine v_ret ?_ | refine v_draw0 ?_) | (with_reducible refine i_plan ?_; first | refine p_done ?_ | refine s_pre ?_ | refine p_callp qrf (by exact mulM b _ _ G2 FO1) qle ?_ p_no) | (with_reducible refine n_then ?_) | ((with_reducible refine s_ret ?_); try simp only [x_tup0, x_tup1, x_tup2, x_tup3, x_tup4, x_tup5, and_true, true_and])))
              have h1 : be x < p256 := by assumption
              have h2 : be y < p256 := by assumption
              exact ⟨by rw [onP, if_neg (by decide), decide_eq_true h1, decide_eq_true h2]; rfl, hle2⟩
            clear hQ
            (repeat' (first | (with_reducible refine i_ops ?_; first | (refine g_mv ?_; refine s_mv ?_) | refine o_nil ?_ | (refine g_pure ?_; first | refine s_nilck ?_ | refine s_fptr0 ?_) | (refine g_lload ?_; refine s_lloadM ?_) | (refine g_lstore ?_; refine s_lstoreM ?_) | (refine g_hload ?_; refine s_hloadP ?_)) | (with_reducible refine i_vc ?_; refine v_draw0 ?_) | (with_reducible refine i_plan ?_; first | refine p_done ?_ | refine s_pre ?_ | refine p_callp qrf (by first | exact coR _ | exact mulSqM b co256 (by decide) G2 FO1 | exact addM b _ _ G2 FO1) qle ?_ p_no | refine s_alt ?_ | refine p_alt ?_ ?_) | (with_reducible (refine g_stand ?_; first | refine s_stand ?_ | refine s_standL ?_))))
            all_goals exact k_trim [(2, .bool false), (3, .int .u64 0), (4, .int .u64 0), (5, pf b), (6, .int .u64 0)] [(3, (fm (of (be x))).cells), (4, (fm (of (be y))).cells), (6, (fm ((of (be x)) * (of (be x)) * (of (be x)) - ((of (be x)) + (of (be x)) + (of (be x))) + of co256)).cells)] qhs qhl tail
          clear hQ
          (repeat' (first | (with_reducible refine i_ops ?_; first | (refine g_mv ?_; refine s_mv ?_) | refine o_nil ?_ | (refine g_lload ?_; refine s_lloadM ?_) | (refine g_lstore ?_; refine s_lstoreM ?_)) | (with_reducible refine i_vc ?_; refine v_draw0 ?_) | (with_reducible refine i_plan ?_; first | refine p_done ?_ | refine s_pre ?_ | refine p_callp qrf (by first | exact addM b _ _ G2 FO1 | exact subM b _ _ G2 FO1) qle ?_ p_no | refine s_alt ?_ | refine p_alt ?_ ?_) | (with_reducible (refine g_stand ?_; first | refine s_stand ?_ | refine s_standL ?_))))
          all_goals exact k_trim [(2, .bool false), (3, .int .u64 0), (4, .int .u64 0), (5, pf b), (6, .int .u64 0)] [(3, (fm (of (be x))).cells), (4, (fm (of (be y))).cells), (6, (fm ((of (be x)) * (of (be x)) * (of (be x)) - ((of (be x)) + (of (be x)) + (of (be x))))).cells)] qhs qhl tail
        clear hQ
        (repeat' (first | (with_reducible refine i_ops ?_; first | (refine g_mv ?_; refine s_mv ?_) | refine o_nil ?_ | (refine g_lload ?_; refine s_lloadM ?_) | (refine g_lstore ?_; refine s_lstoreM ?_) | (refine g_lalloc ?_; refine s_lalloc ?_) | refine o_callp qrf (by exact mulM b _ _ G2 FO1) ?_) | (with_reducible refine i_vc ?_; refine v_draw0 ?_) | (with_reducible refine i_plan ?_; first | refine p_done ?_ | refine s_pre ?_ | refine p_callp qrf (by exact mulM b _ _ G2 FO1) qle ?_ p_no | refine s_alt ?_ | refine p_alt ?_ ?_) | (with_reducible (refine g_stand ?_; first | refine s_stand ?_ | refine s_standL ?_))))
        all_goals exact k_trim [(2, .bool false), (3, .int .u64 0), (4, .int .u64 0), (5, pf b), (6, .int .u64 0)] [(3, (fm (of (be x))).cells), (4, (fm (of (be y))).cells), (6, (fm ((of (be x)) * (of (be x)) * (of (be x)))).cells)] qhs qhl tail
      clear hQ
      (repeat' (first | (with_reducible refine i_ops ?_; first | (refine g_mv ?_; refine s_mv ?_) | refine o_nil ?_ | (refine g_pure ?_; first | refine s_nilck ?_ | refine s_fptr0 ?_) | (refine g_lload ?_; refine s_lloadW ?_) | (refine g_lstore ?_; refine s_lstoreM ?_) | (refine g_hload ?_; refine s_hloadP ?_) | refine o_callp qrf (by exact mulSqM b (be x) hbx G2 FO1) ?_) | (with_reducible refine i_vc ?_; refine v_draw0 ?_) | (with_reducible refine i_plan ?_; first | refine p_done ?_ | refine s_pre ?_ | refine p_callp qrf (by first | exact mulSqM b (be x) hbx G2 FO1 | exact mulSqM b (be y) hby G2 FO1) qle ?_ p_no | refine s_alt ?_ | refine p_alt ?_ ?_) | (with_reducible (refine g_stand ?_; first | refine s_stand ?_ | refine s_standL ?_))))
      all_goals exact k_trim [(2, .bool false), (3, .int .u64 0), (4, .int .u64 0), (5, pf b)] [(3, (fm (of (be x))).cells), (4, (fm (of (be y))).cells)] qhs qhl tail
  clear hQ
  (repeat' (first | (with_reducible refine i_ops ?_; first | refine o_nil ?_ | (refine g_lfield ?_; refine s_lfield ?_) | (refine g_lload ?_; first | refine s_lloadPX ?_ | refine s_lloadPY ?_) | (refine g_lstore ?_; refine s_lstoreA ?_) | (refine g_lalloc ?_; refine s_lalloc ?_) | refine o_callp qrf (by first | exact fromR _ _ hx | exact fromR _ _ hy) ?_) | (with_reducible refine i_vc ?_; refine v_draw0 ?_) | (with_reducible refine i_plan ?_; first | refine p_done ?_ | refine s_pre ?_ | refine p_callp qrf (by first | exact fromR _ _ hx | exact fromR _ _ hy) qle ?_ p_no | refine s_alt ?_ | refine p_alt ?_ ?_) | (with_reducible (refine g_stand ?_; first | refine s_stand ?_ | refine s_standL ?_))))
  all_goals exact k_trim [(2, .bool false), (3, .int .u64 0), (4, .int .u64 0)] [(3, na (fd 4294967296 8 (be x))), (4, na (fd 4294967296 8 (be y)))] qhs qhl tail
end Go.Proofs.Ytdeihgcgglhhcaa.V
end
