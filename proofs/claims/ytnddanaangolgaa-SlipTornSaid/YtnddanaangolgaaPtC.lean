/- slip.Sum. -/
import Derived.Test.YtnddanaangolgaaPtB
set_option linter.unusedSimpArgs false
set_option linter.unusedVariables false
-- @extra s_xor32 s_xorr32 s_and32 s_andr32 s_shr32 s_cn_32 s_not32
namespace Go.Proofs.Ytnddanaangolgaa.V
open Go.RowKit Go.ChangeShapes Go.WideShapes
def tab : Array Value := #[.int .u32 0, .int .u32 498536548, .int .u32 997073096, .int .u32 651767980, .int .u32 1994146192, .int .u32 1802195444, .int .u32 1303535960, .int .u32 1342533948, .int .u32 3988292384, .int .u32 4027552580, .int .u32 3604390888, .int .u32 3412177804, .int .u32 2607071920, .int .u32 2262029012, .int .u32 2685067896, .int .u32 3183342108]
theorem tab_at : ∀ k : Nat, k < 16 → tab[k]? = some (u32 (bits4 (BitVec.ofNat 32 k))) := by
  intro k hk
  match k, hk with
  | 0, _ => rfl
  | 1, _ => rfl
  | 2, _ => rfl
  | 3, _ => rfl
  | 4, _ => rfl
  | 5, _ => rfl
  | 6, _ => rfl
  | 7, _ => rfl
  | 8, _ => rfl
  | 9, _ => rfl
  | 10, _ => rfl
  | 11, _ => rfl
  | 12, _ => rfl
  | 13, _ => rfl
  | 14, _ => rfl
  | 15, _ => rfl
  | k + 16, h => omega
theorem tab_take (j : BitVec 32) (h : j.toNat < 16) : takeV false tab ((j.toNat : Int)).toNat 1 = some (u32 (bits4 j)) := by
  rw [x_take1, Int.toNat_natCast, tab_at _ h]
  congr 4
  rw [BitVec.ofNat_toNat]; simp
theorem and15 (z : BitVec 32) : (z &&& BitVec.ofInt 32 15).toNat < 16 := by
  rw [BitVec.toNat_and, show (BitVec.ofInt 32 15).toNat = 15 from rfl]
  have : z.toNat &&& 15 ≤ 15 := Nat.and_le_right
  omega
def rrN (r : BitVec 32) (x : Nat) : Nat → BitVec 32 × Nat
  | 0 => (r, x)
  | k + 1 => (nib (rrN r x k).1 (rrN r x k).2, (rrN r x k).2 / 16)
theorem sum10 (u : Value) (us : List Value) (ps : List (List UInt8)) (G : GH) (hp : Parts G u us ps) : HC Try.prog 10 #[u] G fun v G' => v = u32 (sumB ps.flatten) ∧ G' = G := by
  have hu := hp.1
  have hlen : lenS u = ps.length := by have := hu.len; have := hp.2.1; omega
  have hl1 := hu.len_le
  refine HC.start comp10 rfl ?_; unfold pc10
  (repeat' (first | (with_reducible refine i_ops ?_; first | (refine g_mv ?_; refine s_mv ?_) | refine o_nil ?_ | (refine g_len ?_; first | refine s_lenB ?_ | refine s_pure ?_) | (refine g_idx ?_; first | (refine s_idxOB ?_; intro p hp hpw) | (refine s_idxB ?_; intro p hp)) | (refine g_build ?_; first | refine s_build ?_ | refine s_buildP ?_) | (refine g_pure ?_; first | refine s_xor32 ?_ | refine s_xorr32 ?_ | refine s_and32 ?_ | refine s_andr32 ?_ | refine s_shr32 ?_ | refine s_cn_32 ?_ | refine s_not32 ?_ | refine s_pure ?_ | refine s_saddB ?_) | (refine g_lload ?_; refine s_lload ?_) | (refine g_lstore ?_; first | refine s_lstoreA ?_ | refine s_lstore ?_) | (refine g_lindex ?_; refine s_lindex ?_) | (refine g_lalloc ?_; refine s_lalloc ?_) | (refine g_hload ?_; refine s_hloadP ?_)) | (with_reducible refine i_vc ?_; first | refine v_seq ?_ | refine v_ops ?_ | (refine g_cond ?_; first | refine s_cond_t ?_ | refine s_cond_f ?_) | refine v_block ?_ | refine v_skip ?_ | refine v_exit ?_ | refine v_ret ?_) | (with_reducible first | refine n_then ?_ | refine r_then ?_ | refine e_then ?_ | refine n_block ?_ | refine r_block ?_ | refine e_block_eq (by with_unfolding_all rfl) ?_ | refine e_block_ne (by with_unfolding_all rfl) ?_) | ((with_reducible first | refine s_cond_c ?_ ?_) <;> intro hb <;> rw [hb] <;> (try simp only [decide_eq_true_eq, decide_eq_false_iff_not, beq_iff_eq, bne_iff_ne, beq_eq_false_iff_ne, bne_eq_false_iff_eq, ne_eq, Int.not_lt, Int.not_le, gt_iff_lt, ge_iff_le, Bool.not_eq_true', Bool.not_eq_false'] at hb)) | ((with_reducible first | refine s_ret ?_ | refine s_normal ?_); try simp only [x_tup0, x_tup1, x_tup2, x_tup3, x_tup4, x_tup5, and_true, true_and])))
  refine o_lenS (by with_unfolding_all rfl) hu ?_
  rw [hlen]
  (repeat' (first | (with_reducible refine i_ops ?_; first | (refine g_mv ?_; refine s_mv ?_) | refine o_nil ?_ | (refine g_len ?_; first | refine s_lenB ?_ | refine s_pure ?_) | (refine g_idx ?_; first | (refine s_idxOB ?_; intro p hp hpw) | (refine s_idxB ?_; intro p hp)) | (refine g_build ?_; first | refine s_build ?_ | refine s_buildP ?_) | (refine g_pure ?_; first | refine s_xor32 ?_ | refine s_xorr32 ?_ | refine s_and32 ?_ | refine s_andr32 ?_ | refine s_shr32 ?_ | refine s_cn_32 ?_ | refine s_not32 ?_ | refine s_pure ?_ | refine s_saddB ?_) | (refine g_lload ?_; refine s_lload ?_) | (refine g_lstore ?_; first | refine s_lstoreA ?_ | refine s_lstore ?_) | (refine g_lindex ?_; refine s_lindex ?_) | (refine g_lalloc ?_; refine s_lalloc ?_) | (refine g_hload ?_; refine s_hloadP ?_)) | (with_reducible refine i_vc ?_; first | refine v_seq ?_ | refine v_ops ?_ | (refine g_cond ?_; first | refine s_cond_t ?_ | refine s_cond_f ?_) | refine v_block ?_ | refine v_skip ?_ | refine v_exit ?_ | refine v_ret ?_) | (with_reducible first | refine n_then ?_ | refine r_then ?_ | refine e_then ?_ | refine n_block ?_ | refine r_block ?_ | refine e_block_eq (by with_unfolding_all rfl) ?_ | refine e_block_ne (by with_unfolding_all rfl) ?_) | ((with_reducible first | refine s_cond_c ?_ ?_) <;> intro hb <;> rw [hb] <;> (try simp only [decide_eq_true_eq, decide_eq_false_iff_not, beq_iff_eq, bne_iff_ne, beq_eq_false_iff_ne, bne_eq_false_iff_eq, ne_eq, Int.not_lt, Int.not_le, gt_iff_lt, ge_iff_le, Bool.not_eq_true', Bool.not_eq_false'] at hb)) | ((with_reducible first | refine s_ret ?_ | refine s_normal ?_); try simp only [x_tup0, x_tup1, x_tup2, x_tup3, x_tup4, x_tup5, and_true, true_and])))
  refine v_loopX (α := Nat) (fun i => i ≤ ps.length) (fun i => [(3, .int .u64 0), (4, u32 (crc (BitVec.allOnes 32) (ps.take i).flatten)), (10, u), (11, .int .i64 ps.length), (12, .int .i64 i)]) (fun _ => [(3, tab)]) (fun _ => G) (fun i => ps.length - i) 0
    (Nat.zero_le _) (by refine ⟨SL.get_fn (by with_unfolding_all rfl), SL.get_fn (by with_unfolding_all rfl), SL.get_fn (by with_unfolding_all rfl), SL.get_fn (by with_unfolding_all rfl), SL.get_fn (by with_unfolding_all rfl), trivial⟩) (by exact ⟨AL.get_fn (by with_unfolding_all rfl), trivial⟩) rfl ?_
  rintro i s ll k1
  dsimp only [SL.sets, AL.sets]
  (repeat' (first | (with_reducible refine i_ops ?_; first | (refine g_mv ?_; refine s_mv ?_) | refine o_nil ?_ | (refine g_len ?_; first | refine s_lenB ?_ | refine s_pure ?_) | (refine g_idx ?_; first | (refine s_idxOB ?_; intro p hp hpw) | (refine s_idxB ?_; intro p hp)) | (refine g_build ?_; first | refine s_build ?_ | refine s_buildP ?_) | (refine g_pure ?_; first | refine s_xor32 ?_ | refine s_xorr32 ?_ | refine s_and32 ?_ | refine s_andr32 ?_ | refine s_shr32 ?_ | refine s_cn_32 ?_ | refine s_not32 ?_ | refine s_pure ?_ | refine s_saddB ?_) | (refine g_lload ?_; refine s_lload ?_) | (refine g_lstore ?_; first | refine s_lstoreA ?_ | refine s_lstore ?_) | (refine g_lindex ?_; refine s_lindex ?_) | (refine g_lalloc ?_; refine s_lalloc ?_) | (refine g_hload ?_; refine s_hloadP ?_)) | (with_reducible refine i_vc ?_; first | refine v_seq ?_ | refine v_ops ?_ | (refine g_cond ?_; first | refine s_cond_t ?_ | refine s_cond_f ?_) | refine v_block ?_ | refine v_skip ?_ | refine v_exit ?_ | refine v_ret ?_) | (with_reducible first | refine n_then ?_ | refine r_then ?_ | refine e_then ?_ | refine n_block ?_ | refine r_block ?_ | refine e_block_eq (by with_unfolding_all rfl) ?_ | refine e_block_ne (by with_unfolding_all rfl) ?_) | ((with_reducible first | refine s_cond_c ?_ ?_) <;> intro hb <;> rw [hb] <;> (try simp only [decide_eq_true_eq, decide_eq_false_iff_not, beq_iff_eq, bne_iff_ne, beq_eq_false_iff_ne, bne_eq_false_iff_eq, ne_eq, Int.not_lt, Int.not_le, gt_iff_lt, ge_iff_le, Bool.not_eq_true', Bool.not_eq_false'] at hb)) | ((with_reducible first | refine s_ret ?_ | refine s_normal ?_); try simp only [x_tup0, x_tup1, x_tup2, x_tup3, x_tup4, x_tup5, and_true, true_and])))
  · have hi : i < ps.length := by omega
    obtain ⟨w, ew, hw⟩ := hp.2.2 i hi
    have hwl := By.len_le hw
    refine o_idxS (by with_unfolding_all rfl) hu (by with_unfolding_all rfl) (by omega) (v := w) (by simpa using ew) ?_
    intro p hp'
    (repeat' (first | (with_reducible refine i_ops ?_; first | (refine g_mv ?_; refine s_mv ?_) | refine o_nil ?_ | (refine g_len ?_; first | refine s_lenB ?_ | refine s_pure ?_) | (refine g_idx ?_; first | (refine s_idxOB ?_; intro p hp hpw) | (refine s_idxB ?_; intro p hp)) | (refine g_build ?_; first | refine s_build ?_ | refine s_buildP ?_) | (refine g_pure ?_; first | refine s_xor32 ?_ | refine s_xorr32 ?_ | refine s_and32 ?_ | refine s_andr32 ?_ | refine s_shr32 ?_ | refine s_cn_32 ?_ | refine s_not32 ?_ | refine s_pure ?_ | refine s_saddB ?_) | (refine g_lload ?_; refine s_lload ?_) | (refine g_lstore ?_; first | refine s_lstoreA ?_ | refine s_lstore ?_) | (refine g_lindex ?_; refine s_lindex ?_) | (refine g_lalloc ?_; refine s_lalloc ?_) | (refine g_hload ?_; refine s_hloadP ?_)) | (with_reducible refine i_vc ?_; first | refine v_seq ?_ | refine v_ops ?_ | (refine g_cond ?_; first | refine s_cond_t ?_ | refine s_cond_f ?_) | refine v_block ?_ | refine v_skip ?_ | refine v_exit ?_ | refine v_ret ?_) | (with_reducible first | refine n_then ?_ | refine r_then ?_ | refine e_then ?_ | refine n_block ?_ | refine r_block ?_ | refine e_block_eq (by with_unfolding_all rfl) ?_ | refine e_block_ne (by with_unfolding_all rfl) ?_) | ((with_reducible first | refine s_cond_c ?_ ?_) <;> intro hb <;> rw [hb] <;> (try simp only [decide_eq_true_eq, decide_eq_false_iff_not, beq_iff_eq, bne_iff_ne, beq_eq_false_iff_ne, bne_eq_false_iff_eq, ne_eq, Int.not_lt, Int.not_le, gt_iff_lt, ge_iff_le, Bool.not_eq_true', Bool.not_eq_false'] at hb)) | ((with_reducible first | refine s_ret ?_ | refine s_normal ?_); try simp only [x_tup0, x_tup1, x_tup2, x_tup3, x_tup4, x_tup5, and_true, true_and])))
    generalize hr0 : crc (BitVec.allOnes 32) (ps.take i).flatten = r0
    generalize hbs : ps[i] = bs at *
    refine v_loopX (α := Nat) (fun j => j ≤ bs.length) (fun j => [(3, .int .u64 0), (4, u32 (crc r0 (bs.take j))), (10, u), (11, .int .i64 ps.length), (12, .int .i64 i), (16, w), (17, .int .i64 bs.length), (18, .int .i64 j)]) (fun _ => [(3, tab)]) (fun _ => G) (fun j => bs.length - j) 0
      (Nat.zero_le _) (by refine ⟨SL.get_fn (by with_unfolding_all rfl), SL.get_fn (by with_unfolding_all rfl), SL.get_fn (by with_unfolding_all rfl), SL.get_fn (by with_unfolding_all rfl), SL.get_fn (by with_unfolding_all rfl), SL.get_fn (by with_unfolding_all rfl), SL.get_fn (by with_unfolding_all rfl), SL.get_fn (by with_unfolding_all rfl), trivial⟩) (by exact ⟨AL.get_fn (by with_unfolding_all rfl), trivial⟩) rfl ?_
    rintro j s2 ll2 k2
    dsimp only [SL.sets, AL.sets]
    (repeat' (first | (with_reducible refine i_ops ?_; first | (refine g_mv ?_; refine s_mv ?_) | refine o_nil ?_ | (refine g_len ?_; first | refine s_lenB ?_ | refine s_pure ?_) | (refine g_idx ?_; first | (refine s_idxOB ?_; intro p hp hpw) | (refine s_idxB ?_; intro p hp)) | (refine g_build ?_; first | refine s_build ?_ | refine s_buildP ?_) | (refine g_pure ?_; first | refine s_xor32 ?_ | refine s_xorr32 ?_ | refine s_and32 ?_ | refine s_andr32 ?_ | refine s_shr32 ?_ | refine s_cn_32 ?_ | refine s_not32 ?_ | refine s_pure ?_ | refine s_saddB ?_) | (refine g_lload ?_; refine s_lload ?_) | (refine g_lstore ?_; first | refine s_lstoreA ?_ | refine s_lstore ?_) | (refine g_lindex ?_; refine s_lindex ?_) | (refine g_lalloc ?_; refine s_lalloc ?_) | (refine g_hload ?_; refine s_hloadP ?_)) | (with_reducible refine i_vc ?_; first | refine v_seq ?_ | refine v_ops ?_ | (refine g_cond ?_; first | refine s_cond_t ?_ | refine s_cond_f ?_) | refine v_block ?_ | refine v_skip ?_ | refine v_exit ?_ | refine v_ret ?_) | (with_reducible first | refine n_then ?_ | refine r_then ?_ | refine e_then ?_ | refine n_block ?_ | refine r_block ?_ | refine e_block_eq (by with_unfolding_all rfl) ?_ | refine e_block_ne (by with_unfolding_all rfl) ?_) | ((with_reducible first | refine s_cond_c ?_ ?_) <;> intro hb <;> rw [hb] <;> (try simp only [decide_eq_true_eq, decide_eq_false_iff_not, beq_iff_eq, bne_iff_ne, beq_eq_false_iff_ne, bne_eq_false_iff_eq, ne_eq, Int.not_lt, Int.not_le, gt_iff_lt, ge_iff_le, Bool.not_eq_true', Bool.not_eq_false'] at hb)) | ((with_reducible first | refine s_ret ?_ | refine s_normal ?_); try simp only [x_tup0, x_tup1, x_tup2, x_tup3, x_tup4, x_tup5, and_true, true_and])))
    · have hj : j < bs.length := by omega
      rw [Int.toNat_natCast]
      generalize hx : bs.getD j 0 = x
      generalize hr : crc r0 (bs.take j) = r
      refine v_loopX (α := Nat) (fun k => k ≤ 2) (fun k => [(3, .int .u64 0), (4, u32 (rrN r x.toNat k).1), (8, .int .u8 ((rrN r x.toNat k).2 : Int)), (10, u), (11, .int .i64 ps.length), (12, .int .i64 i), (16, w), (17, .int .i64 bs.length), (18, .int .i64 j), (22, .int .i64 k)]) (fun _ => [(3, tab)]) (fun _ => G) (fun k => 2 - k) 0
        (Nat.zero_le _) (by refine ⟨SL.get_fn (by with_unfolding_all rfl), SL.get_fn (by with_unfolding_all rfl), SL.get_fn (by with_unfolding_all rfl), SL.get_fn (by with_unfolding_all rfl), SL.get_fn (by with_unfolding_all rfl), SL.get_fn (by with_unfolding_all rfl), SL.get_fn (by with_unfolding_all rfl), SL.get_fn (by with_unfolding_all rfl), SL.get_fn (by with_unfolding_all rfl), SL.get_fn (by with_unfolding_all rfl), trivial⟩) (by exact ⟨AL.get_fn (by with_unfolding_all rfl), trivial⟩) rfl ?_
      rintro k s3 ll3 k3
      dsimp only [SL.sets, AL.sets]
      generalize hq : rrN r x.toNat k = q
      have h15 := and15 (q.1 ^^^ BitVec.ofNat 32 q.2)
      (repeat' (first | (with_reducible refine i_ops ?_; first | (refine g_mv ?_; refine s_mv ?_) | refine o_nil ?_ | (refine g_len ?_; first | refine s_lenB ?_ | refine s_pure ?_) | (refine g_idx ?_; first | (refine s_idxOB ?_; intro p hp hpw) | (refine s_idxB ?_; intro p hp)) | (refine g_build ?_; first | refine s_build ?_ | refine s_buildP ?_) | (refine g_pure ?_; first | refine s_xor32 ?_ | refine s_xorr32 ?_ | refine s_and32 ?_ | refine s_andr32 ?_ | refine s_shr32 ?_ | refine s_cn_32 ?_ | refine s_not32 ?_ | refine s_pure ?_ | refine s_saddB ?_) | (refine g_lload ?_; refine s_lload ?_) | (refine g_lstore ?_; first | refine s_lstoreA ?_ | refine s_lstore ?_) | (refine g_lindex ?_; refine s_lindex ?_) | (refine g_lalloc ?_; refine s_lalloc ?_) | (refine g_hload ?_; refine s_hloadP ?_)) | (with_reducible refine i_vc ?_; first | refine v_seq ?_ | refine v_ops ?_ | (refine g_cond ?_; first | refine s_cond_t ?_ | refine s_cond_f ?_) | refine v_block ?_ | refine v_skip ?_ | refine v_exit ?_ | refine v_ret ?_) | (with_reducible first | refine n_then ?_ | refine r_then ?_ | refine e_then ?_ | refine n_block ?_ | refine r_block ?_ | refine e_block_eq (by with_unfolding_all rfl) ?_ | refine e_block_ne (by with_unfolding_all rfl) ?_) | ((with_reducible first | refine s_cond_c ?_ ?_) <;> intro hb <;> rw [hb] <;> (try simp only [decide_eq_true_eq, decide_eq_false_iff_not, beq_iff_eq, bne_iff_ne, beq_eq_false_iff_ne, bne_eq_false_iff_eq, ne_eq, Int.not_lt, Int.not_le, gt_iff_lt, ge_iff_le, Bool.not_eq_true', Bool.not_eq_false'] at hb)) | ((with_reducible first | refine s_ret ?_ | refine s_normal ?_); try simp only [x_tup0, x_tup1, x_tup2, x_tup3, x_tup4, x_tup5, and_true, true_and])))
      · refine o_lload (by with_unfolding_all rfl) (by with_unfolding_all rfl) (tab_take _ h15) ?_
        (repeat' (first | (with_reducible refine i_ops ?_; first | (refine g_mv ?_; refine s_mv ?_) | refine o_nil ?_ | (refine g_len ?_; first | refine s_lenB ?_ | refine s_pure ?_) | (refine g_idx ?_; first | (refine s_idxOB ?_; intro p hp hpw) | (refine s_idxB ?_; intro p hp)) | (refine g_build ?_; first | refine s_build ?_ | refine s_buildP ?_) | (refine g_pure ?_; first | refine s_xor32 ?_ | refine s_xorr32 ?_ | refine s_and32 ?_ | refine s_andr32 ?_ | refine s_shr32 ?_ | refine s_cn_32 ?_ | refine s_not32 ?_ | refine s_pure ?_ | refine s_saddB ?_) | (refine g_lload ?_; refine s_lload ?_) | (refine g_lstore ?_; first | refine s_lstoreA ?_ | refine s_lstore ?_) | (refine g_lindex ?_; refine s_lindex ?_) | (refine g_lalloc ?_; refine s_lalloc ?_) | (refine g_hload ?_; refine s_hloadP ?_)) | (with_reducible refine i_vc ?_; first | refine v_seq ?_ | refine v_ops ?_ | (refine g_cond ?_; first | refine s_cond_t ?_ | refine s_cond_f ?_) | refine v_block ?_ | refine v_skip ?_ | refine v_exit ?_ | refine v_ret ?_) | (with_reducible first | refine n_then ?_ | refine r_then ?_ | refine e_then ?_ | refine n_block ?_ | refine r_block ?_ | refine e_block_eq (by with_unfolding_all rfl) ?_ | refine e_block_ne (by with_unfolding_all rfl) ?_) | ((with_reducible first | refine s_cond_c ?_ ?_) <;> intro hb <;> rw [hb] <;> (try simp only [decide_eq_true_eq, decide_eq_false_iff_not, beq_iff_eq, bne_iff_ne, beq_eq_false_iff_ne, bne_eq_false_iff_eq, ne_eq, Int.not_lt, Int.not_le, gt_iff_lt, ge_iff_le, Bool.not_eq_true', Bool.not_eq_false'] at hb)) | ((with_reducible first | refine s_ret ?_ | refine s_normal ?_); try simp only [x_tup0, x_tup1, x_tup2, x_tup3, x_tup4, x_tup5, and_true, true_and])))
        refine ⟨2 - (k + 1), by omega, k + 1, rfl, by omega, ?_, ⟨AL.get_fn (by with_unfolding_all rfl), trivial⟩, rfl⟩
        have e : rrN r x.toNat (k + 1) = ((q.1 >>> Int.toNat 4) ^^^ bits4 ((q.1 ^^^ BitVec.ofNat 32 q.2) &&& BitVec.ofInt 32 15), q.2 / 16) := by
          show (nib (rrN r x.toNat k).1 (rrN r x.toNat k).2, (rrN r x.toNat k).2 / 16) = _
          rw [hq]; rfl
        rw [e]
        exact (by refine ⟨SL.get_fn (by with_unfolding_all rfl), SL.get_fn (by with_unfolding_all rfl), SL.get_fn (by with_unfolding_all rfl), SL.get_fn (by with_unfolding_all rfl), SL.get_fn (by with_unfolding_all rfl), SL.get_fn (by with_unfolding_all rfl), SL.get_fn (by with_unfolding_all rfl), SL.get_fn (by with_unfolding_all rfl), SL.get_fn (by with_unfolding_all rfl), SL.get_fn (by with_unfolding_all rfl), trivial⟩)
      · have hk : k = 2 := by omega
        subst hk
        refine ⟨bs.length - (j + 1), by omega, j + 1, rfl, hj, ?_, ⟨AL.get_fn (by with_unfolding_all rfl), trivial⟩, rfl⟩
        have e : crc r0 (bs.take (j + 1)) = q.1 := by
          rw [crc_take hj, hr, hx, ← hq, ← nib_two]; rfl
        rw [e]
        exact (by refine ⟨SL.get_fn (by with_unfolding_all rfl), SL.get_fn (by with_unfolding_all rfl), SL.get_fn (by with_unfolding_all rfl), SL.get_fn (by with_unfolding_all rfl), SL.get_fn (by with_unfolding_all rfl), SL.get_fn (by with_unfolding_all rfl), SL.get_fn (by with_unfolding_all rfl), SL.get_fn (by with_unfolding_all rfl), trivial⟩)
    · have hj : j = bs.length := by omega
      subst hj
      rw [List.take_length]
      refine ⟨ps.length - (i + 1), by omega, i + 1, rfl, hi, ?_, ⟨AL.get_fn (by with_unfolding_all rfl), trivial⟩, rfl⟩
      have e : crc (BitVec.allOnes 32) (ps.take (i + 1)).flatten = crc r0 bs := by
        rw [flat_take hi, crc_append, hr0, hbs]
      rw [e]
      exact (by refine ⟨SL.get_fn (by with_unfolding_all rfl), SL.get_fn (by with_unfolding_all rfl), SL.get_fn (by with_unfolding_all rfl), SL.get_fn (by with_unfolding_all rfl), SL.get_fn (by with_unfolding_all rfl), trivial⟩)
  · have hi : i = ps.length := by omega
    subst hi
    rw [List.take_length]
    rfl
end Go.Proofs.Ytnddanaangolgaa.V
