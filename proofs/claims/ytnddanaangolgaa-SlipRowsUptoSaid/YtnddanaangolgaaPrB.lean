/- The sum of bytes, walked. -/
import Derived.Test.YtnddanaangolgaaPrA
import Derived.Test.YtnddanaangolgaaPrCC
set_option linter.unusedSimpArgs false
set_option linter.unusedVariables false
-- @extra s_xor32 s_xorr32 s_and32 s_andr32 s_shr32 s_cn_32 s_quor32 s_remr32 s_subl32 s_not32
namespace Go.Proofs.Ytnddanaangolgaa.V
open Go.RowKit Go.ChangeShapes Go.WideShapes
abbrev u32 (r : BitVec 32) : Value := .int .u32 (r.toNat : Int)
theorem sub_not (r : BitVec 32) : BitVec.ofInt 32 4294967295 - r = ~~~r := by
  apply BitVec.eq_of_toNat_eq
  have := r.isLt
  rw [BitVec.toNat_not, BitVec.toNat_sub, show (BitVec.ofInt 32 4294967295).toNat = 4294967295 from rfl]
  omega
theorem sum13 (u : Value) (bs : List UInt8) (G : GH) (h : By G u bs) : HC Try.prog 13 #[u] G fun v G' => v = u32 (sumB bs) ∧ G' = G := by
  have hl := By.len_le h
  refine HC.start comp13 rfl ?_; unfold pc13
  (repeat' (first | (with_reducible refine i_ops ?_; first | (refine g_mv ?_; refine s_mv ?_) | refine o_nil ?_ | (refine g_len ?_; first | refine s_lenB ?_ | refine s_pure ?_) | (refine g_idx ?_; first | (refine s_idxOB ?_; intro p hp hpw) | (refine s_idxB ?_; intro p hp)) | (refine g_pure ?_; first | refine s_xor32 ?_ | refine s_xorr32 ?_ | refine s_and32 ?_ | refine s_andr32 ?_ | refine s_shr32 ?_ | refine s_cn_32 ?_ | refine s_quor32 ?_ | refine s_remr32 ?_ | refine s_subl32 ?_ | refine s_not32 ?_ | refine s_pure ?_ | refine s_saddB ?_) | (refine g_hload ?_; refine s_hloadP ?_)) | (with_reducible refine i_vc ?_; first | refine v_seq ?_ | refine v_ops ?_ | (refine g_cond ?_; first | refine s_cond_t ?_ | refine s_cond_f ?_) | refine v_block ?_ | refine v_skip ?_ | refine v_exit ?_ | refine v_ret ?_) | (with_reducible first | refine n_then ?_ | refine r_then ?_ | refine e_then ?_ | refine n_block ?_ | refine r_block ?_ | refine e_block_eq (by with_unfolding_all rfl) ?_ | refine e_block_ne (by with_unfolding_all rfl) ?_) | ((with_reducible first | refine s_cond_c ?_ ?_) <;> intro hb <;> rw [hb] <;> (try simp only [decide_eq_true_eq, decide_eq_false_iff_not, beq_iff_eq, bne_iff_ne, beq_eq_false_iff_ne, bne_eq_false_iff_eq, ne_eq, Int.not_lt, Int.not_le, gt_iff_lt, ge_iff_le, Bool.not_eq_true', Bool.not_eq_false'] at hb)) | ((with_reducible first | refine s_ret ?_ | refine s_normal ?_); try simp only [x_tup0, x_tup1, x_tup2, x_tup3, x_tup4, x_tup5, and_true, true_and])))
  refine v_loopX (α := Nat) (fun i => i ≤ bs.length) (fun i => [(0, u), (3, u32 (crc (BitVec.allOnes 32) (bs.take i))), (4, .int .i64 i)]) (fun _ => []) (fun _ => G) (fun i => bs.length - i) 0
    (Nat.zero_le _) (by refine ⟨SL.get_fn (by with_unfolding_all rfl), SL.get_fn (by with_unfolding_all rfl), SL.get_fn (by with_unfolding_all rfl), trivial⟩) trivial rfl ?_
  rintro i s ll k1
  dsimp only [SL.sets, AL.sets]
  generalize hr : crc (BitVec.allOnes 32) (bs.take i) = r
  (repeat' (first | (with_reducible refine i_ops ?_; first | (refine g_mv ?_; refine s_mv ?_) | refine o_nil ?_ | (refine g_len ?_; first | refine s_lenB ?_ | refine s_pure ?_) | (refine g_idx ?_; first | (refine s_idxOB ?_; intro p hp hpw) | (refine s_idxB ?_; intro p hp)) | (refine g_pure ?_; first | refine s_xor32 ?_ | refine s_xorr32 ?_ | refine s_and32 ?_ | refine s_andr32 ?_ | refine s_shr32 ?_ | refine s_cn_32 ?_ | refine s_quor32 ?_ | refine s_remr32 ?_ | refine s_subl32 ?_ | refine s_not32 ?_ | refine s_pure ?_ | refine s_saddB ?_) | (refine g_hload ?_; refine s_hloadP ?_)) | (with_reducible refine i_vc ?_; first | refine v_seq ?_ | refine v_ops ?_ | (refine g_cond ?_; first | refine s_cond_t ?_ | refine s_cond_f ?_) | refine v_block ?_ | refine v_skip ?_ | refine v_exit ?_ | refine v_ret ?_) | (with_reducible first | refine n_then ?_ | refine r_then ?_ | refine e_then ?_ | refine n_block ?_ | refine r_block ?_ | refine e_block_eq (by with_unfolding_all rfl) ?_ | refine e_block_ne (by with_unfolding_all rfl) ?_) | ((with_reducible first | refine s_cond_c ?_ ?_) <;> intro hb <;> rw [hb] <;> (try simp only [decide_eq_true_eq, decide_eq_false_iff_not, beq_iff_eq, bne_iff_ne, beq_eq_false_iff_ne, bne_eq_false_iff_eq, ne_eq, Int.not_lt, Int.not_le, gt_iff_lt, ge_iff_le, Bool.not_eq_true', Bool.not_eq_false'] at hb)) | ((with_reducible first | refine s_ret ?_ | refine s_normal ?_); try simp only [x_tup0, x_tup1, x_tup2, x_tup3, x_tup4, x_tup5, and_true, true_and])))
  · have hi : i < bs.length := by omega
    rw [Int.toNat_natCast]
    generalize hx : bs.getD i 0 = x
    refine v_loopX (α := Nat) (fun k => k ≤ 8) (fun k => [(0, u), (3, u32 (bitsN (r ^^^ BitVec.ofNat 32 x.toNat) k)), (4, .int .i64 i), (5, .int .i64 k)]) (fun _ => []) (fun _ => G) (fun k => 8 - k) 0
      (Nat.zero_le _) (by refine ⟨SL.get_fn (by with_unfolding_all rfl), SL.get_fn (by with_unfolding_all rfl), SL.get_fn (by with_unfolding_all rfl), SL.get_fn (by with_unfolding_all rfl), trivial⟩) trivial rfl ?_
    rintro k s2 ll2 k2
    dsimp only [SL.sets, AL.sets]
    generalize hq : bitsN (r ^^^ BitVec.ofNat 32 x.toNat) k = q
    (repeat' (first | (with_reducible refine i_ops ?_; first | (refine g_mv ?_; refine s_mv ?_) | refine o_nil ?_ | (refine g_len ?_; first | refine s_lenB ?_ | refine s_pure ?_) | (refine g_idx ?_; first | (refine s_idxOB ?_; intro p hp hpw) | (refine s_idxB ?_; intro p hp)) | (refine g_pure ?_; first | refine s_xor32 ?_ | refine s_xorr32 ?_ | refine s_and32 ?_ | refine s_andr32 ?_ | refine s_shr32 ?_ | refine s_cn_32 ?_ | refine s_quor32 ?_ | refine s_remr32 ?_ | refine s_subl32 ?_ | refine s_not32 ?_ | refine s_pure ?_ | refine s_saddB ?_) | (refine g_hload ?_; refine s_hloadP ?_)) | (with_reducible refine i_vc ?_; first | refine v_seq ?_ | refine v_ops ?_ | (refine g_cond ?_; first | refine s_cond_t ?_ | refine s_cond_f ?_) | refine v_block ?_ | refine v_skip ?_ | refine v_exit ?_ | refine v_ret ?_) | (with_reducible first | refine n_then ?_ | refine r_then ?_ | refine e_then ?_ | refine n_block ?_ | refine r_block ?_ | refine e_block_eq (by with_unfolding_all rfl) ?_ | refine e_block_ne (by with_unfolding_all rfl) ?_) | ((with_reducible first | refine s_cond_c ?_ ?_) <;> intro hb <;> rw [hb] <;> (try simp only [decide_eq_true_eq, decide_eq_false_iff_not, beq_iff_eq, bne_iff_ne, beq_eq_false_iff_ne, bne_eq_false_iff_eq, ne_eq, Int.not_lt, Int.not_le, gt_iff_lt, ge_iff_le, Bool.not_eq_true', Bool.not_eq_false'] at hb)) | ((with_reducible first | refine s_ret ?_ | refine s_normal ?_); try simp only [x_tup0, x_tup1, x_tup2, x_tup3, x_tup4, x_tup5, and_true, true_and])))
    · refine ⟨8 - (k + 1), by omega, k + 1, rfl, by omega, ?_, trivial, rfl⟩
      have e : bitsN (r ^^^ BitVec.ofNat 32 x.toNat) (k + 1) = (q / BitVec.ofInt 32 2) ^^^ BitVec.ofInt 32 3988292384 := by
        show bit1 (bitsN (r ^^^ BitVec.ofNat 32 x.toNat) k) = _
        rw [hq, bit1_eq, if_pos (by exact Int.ofNat.inj hb)]; rfl
      rw [e]
      exact (by refine ⟨SL.get_fn (by with_unfolding_all rfl), SL.get_fn (by with_unfolding_all rfl), SL.get_fn (by with_unfolding_all rfl), SL.get_fn (by with_unfolding_all rfl), trivial⟩)
    · refine ⟨8 - (k + 1), by omega, k + 1, rfl, by omega, ?_, trivial, rfl⟩
      have e : bitsN (r ^^^ BitVec.ofNat 32 x.toNat) (k + 1) = q / BitVec.ofInt 32 2 := by
        show bit1 (bitsN (r ^^^ BitVec.ofNat 32 x.toNat) k) = _
        rw [hq, bit1_eq, if_neg (by intro e; apply hb; exact congrArg Int.ofNat e)]; rfl
      rw [e]
      exact (by refine ⟨SL.get_fn (by with_unfolding_all rfl), SL.get_fn (by with_unfolding_all rfl), SL.get_fn (by with_unfolding_all rfl), SL.get_fn (by with_unfolding_all rfl), trivial⟩)
    · have hk : k = 8 := by omega
      subst hk
      refine ⟨bs.length - (i + 1), by omega, i + 1, rfl, hi, ?_, trivial, rfl⟩
      have e : crc (BitVec.allOnes 32) (bs.take (i + 1)) = q := by
        rw [crc_take hi, hr, hx, ← hq, bits8]; rfl
      rw [e]
      exact (by refine ⟨SL.get_fn (by with_unfolding_all rfl), SL.get_fn (by with_unfolding_all rfl), SL.get_fn (by with_unfolding_all rfl), trivial⟩)
  · have hi : i = bs.length := by omega
    subst hi
    rw [List.take_length] at hr
    rw [sub_not, ← hr]
    rfl
end Go.Proofs.Ytnddanaangolgaa.V
