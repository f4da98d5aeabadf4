/- The document's bytes of a number; bits. -/
import Derived.Test.YtfacphjjkanajaaDoorBOD
set_option linter.unusedSimpArgs false
set_option linter.unusedVariables false
-- @nums
-- @push
-- @extra s_c8 s_nquoc s_nremc s_wshr s_wremc
namespace Go.Proofs.YtfacphjjkanajaaDoor.V
open Go.RowKit Go.ChangeShapes Go.WideShapes
def rb (n : Nat) : List Nat := (dg 256 n).reverse
theorem rb_len (n : Nat) : (rb n).length = (dg 256 n).length := by simp [rb]
theorem rb_bv (n : Nat) : (rb n).map (iv .u8) = (bytesOf n).map bv := by
  unfold rb bytesOf
  rw [List.map_reverse, List.map_reverse, List.map_map]
  congr 1
  refine List.map_congr_left fun b hb => ?_
  have := dg_lt (B := 256) (by decide) n b hb
  simp [bv, iv, UInt8.toNat_ofNat', Nat.mod_eq_of_lt this]
theorem rb_push {q b : Nat} (hb : b < 256) (h : q ≠ 0 ∨ b ≠ 0) : rb (256 * q + b) = rb q ++ [b] := by
  unfold rb
  rw [show 256 * q + b = b + 256 * q by omega, dg_cons (by decide) hb (by omega)]
  simp
theorem rb_both {q x : Nat} (hx : x < 65536) (h : q ≠ 0 ∨ x / 256 ≠ 0) : (rb q ++ [x / 256]) ++ [x % 256] = rb (65536 * q + x) := by
  rw [← rb_push (by omega) h, ← rb_push (by omega) (by omega)]
  congr 1; omega
theorem rb_snd {q x : Nat} (hx : x < 65536) (h : q = 0) (h1 : x / 256 = 0) (h2 : x % 256 ≠ 0) : rb q ++ [x % 256] = rb (65536 * q + x) := by
  rw [← rb_push (by omega) (.inr h2)]
  congr 1; omega
theorem rb_none {q x : Nat} (h : q = 0) (h1 : x = 0) : rb q = rb (65536 * q + x) := by subst h h1; rfl
theorem rBytes (u : Value) (n : Nat) (G : GH) (h : Nm G u n) (hl : (dg 65536 n).length ≤ 1000) : HC Tryd.prog 12 #[u] G fun v G' => G.le G' ∧ Own 1 G G' v ((bytesOf n).map bv) := by
  have h : Nu .i64 G u (dg 65536 n) := h
  have hD := dg_lt (B := 65536) (by decide) n
  have ha := fun j => dg_at (B := 65536) (by decide) j n
  have hz : n / 65536 ^ (dg 65536 n).length = 0 := Nat.div_eq_of_lt (lt_dg (by decide) n)
  generalize dg 65536 n = ds at *
  refine HC.start comp12 rfl ?_; unfold pc12
  (repeat' (first | (with_reducible refine i_ops ?_; first | (refine g_mv ?_; refine s_mv ?_) | refine o_nil ?_ | (refine g_some ?_; first | refine s_g_t ?_ | refine s_g_f ?_ | refine s_g_f' ?_ | refine s_g_u ?_) | (refine g_pick ?_; first | refine s_pick_t ?_ | refine s_pick_f ?_) | (refine g_len ?_; first | refine s_lenN ?_ | refine s_lenB ?_ | refine s_pure ?_) | (refine g_idx ?_; first | (refine s_idxN ?_; intro p hp; try simp only [Int.toNat_natCast] at hp) | (refine s_idxOB ?_; intro p hp hpw) | (refine s_idxB ?_; intro p hp)) | (refine g_pure ?_; first | refine s_c8 ?_ | refine s_nquoc ?_ | refine s_nremc ?_ | refine s_wshr ?_ | refine s_wremc ?_ | refine s_pure ?_ | refine s_saddB ?_) | (refine g_hload ?_; refine s_hloadP ?_) | (refine g_push ?_; (refine s_pushN ?_; intro w u' G' hle ho hkp))) | (with_reducible refine i_vc ?_; first | refine v_seq ?_ | refine v_ops ?_ | (refine g_cond ?_; first | refine s_cond_t ?_ | refine s_cond_f ?_) | refine v_block ?_ | refine v_skip ?_ | refine v_exit ?_ | refine v_ret ?_) | (with_reducible first | refine n_then ?_ | refine r_then ?_ | refine e_then ?_ | refine n_block ?_ | refine r_block ?_ | refine e_block_eq (by with_unfolding_all rfl) ?_ | refine e_block_ne (by with_unfolding_all rfl) ?_) | ((with_reducible first | refine s_g_c ?_ ?_ | refine s_cond_c ?_ ?_) <;> intro hb <;> rw [hb] <;> (try simp only [decide_eq_true_eq, decide_eq_false_iff_not, beq_iff_eq, bne_iff_ne, beq_eq_false_iff_ne, bne_eq_false_iff_eq, ne_eq, Int.not_lt, Int.not_le, gt_iff_lt, ge_iff_le, Bool.not_eq_true', Bool.not_eq_false'] at hb)) | ((with_reducible first | refine s_ret ?_ | refine s_normal ?_); try simp only [x_tup0, x_tup1, x_tup2, x_tup3, x_tup4, x_tup5, and_true, true_and])))
  refine v_loopX (α := Nat × Value × GH) (fun q => q.1 ≤ ds.length ∧ G.le q.2.2 ∧ Own 1 G q.2.2 q.2.1 ((rb (n / 65536 ^ q.1)).map (iv .u8)) ∧ (rb (n / 65536 ^ q.1)).length ≤ 2 * (ds.length - q.1)) (fun q => [(0, u), (3, q.2.1), (4, .int .i64 ((q.1 : Int) - 1))]) (fun _ => []) (fun q => q.2.2) (fun q => q.1) (ds.length, .slice none 0 0, G)
    ⟨Nat.le_refl _, GH.le_refl _, by dsimp only; rw [hz]; unfold rb; rw [dg_zero]; exact .inl ⟨rfl, rfl⟩, by dsimp only; rw [hz]; unfold rb; rw [dg_zero]; simp⟩ (by refine ⟨SL.get_fn (by with_unfolding_all rfl), SL.get_fn (by with_unfolding_all rfl), SL.get_fn (by with_unfolding_all rfl), trivial⟩) trivial rfl ?_
  rintro ⟨j, w, H⟩ s ll ⟨k1, k2, k3, k4⟩
  dsimp only at k1 k2 k3 k4
  dsimp only [SL.sets, AL.sets]
  have hH := h.le k2
  rcases j with _ | i
  · rw [Nat.pow_zero, Nat.div_one, rb_bv] at k3
    (repeat' (first | (with_reducible refine i_ops ?_; first | (refine g_mv ?_; refine s_mv ?_) | refine o_nil ?_ | (refine g_some ?_; first | refine s_g_t ?_ | refine s_g_f ?_ | refine s_g_f' ?_ | refine s_g_u ?_) | (refine g_pick ?_; first | refine s_pick_t ?_ | refine s_pick_f ?_) | (refine g_len ?_; first | refine s_lenN ?_ | refine s_lenB ?_ | refine s_pure ?_) | (refine g_idx ?_; first | (refine s_idxN ?_; intro p hp; try simp only [Int.toNat_natCast] at hp) | (refine s_idxOB ?_; intro p hp hpw) | (refine s_idxB ?_; intro p hp)) | (refine g_pure ?_; first | refine s_c8 ?_ | refine s_nquoc ?_ | refine s_nremc ?_ | refine s_wshr ?_ | refine s_wremc ?_ | refine s_pure ?_ | refine s_saddB ?_) | (refine g_hload ?_; refine s_hloadP ?_) | (refine g_push ?_; (refine s_pushN ?_; intro w u' G' hle ho hkp))) | (with_reducible refine i_vc ?_; first | refine v_seq ?_ | refine v_ops ?_ | (refine g_cond ?_; first | refine s_cond_t ?_ | refine s_cond_f ?_) | refine v_block ?_ | refine v_skip ?_ | refine v_exit ?_ | refine v_ret ?_) | (with_reducible first | refine n_then ?_ | refine r_then ?_ | refine e_then ?_ | refine n_block ?_ | refine r_block ?_ | refine e_block_eq (by with_unfolding_all rfl) ?_ | refine e_block_ne (by with_unfolding_all rfl) ?_) | ((with_reducible first | refine s_g_c ?_ ?_ | refine s_cond_c ?_ ?_) <;> intro hb <;> rw [hb] <;> (try simp only [decide_eq_true_eq, decide_eq_false_iff_not, beq_iff_eq, bne_iff_ne, beq_eq_false_iff_ne, bne_eq_false_iff_eq, ne_eq, Int.not_lt, Int.not_le, gt_iff_lt, ge_iff_le, Bool.not_eq_true', Bool.not_eq_false'] at hb)) | ((with_reducible first | refine s_ret ?_ | refine s_normal ?_); try simp only [x_tup0, x_tup1, x_tup2, x_tup3, x_tup4, x_tup5, and_true, true_and])))
    all_goals first | exact ⟨k2, k3⟩ | (exfalso; omega)
  · have e0 : ((i + 1 : Nat) : Int) - 1 = i := by omega
    rw [e0]
    have hx := hD.getD (by decide) i
    have hxi := ha i
    have eq1 : n / 65536 ^ i = 65536 * (n / 65536 ^ (i + 1)) + ds.getD i 0 := by
      rw [hxi, Nat.pow_succ, ← Nat.div_div_eq_div_mul]; omega
    clear hxi
    generalize n / 65536 ^ (i + 1) = q at *
    have z1 : (rb q).length = 0 → q = 0 := fun h => (dg_ne (B := 256) (by decide)).1 (List.eq_nil_of_length_eq_zero (by rw [rb_len] at h; exact h))
    have z2 : q = 0 → (rb q).length = 0 := fun h => by subst h; unfold rb; rw [dg_zero]; rfl
    have b1 := fun h => rb_both (q := q) hx h
    have b2 := fun h h1 h2 => rb_snd (q := q) hx h h1 h2
    have b3 := fun h h1 => rb_none (q := q) (x := ds.getD i 0) h h1
    rw [← eq1] at b1 b2 b3
    have hlen : (rb (n / 65536 ^ i)).length ≤ (rb q).length + 2 := by
      by_cases c1 : q ≠ 0 ∨ ds.getD i 0 / 256 ≠ 0
      · rw [← b1 c1]; simp
      · by_cases c2 : ds.getD i 0 % 256 ≠ 0
        · rw [← b2 (by omega) (by omega) c2]; simp
        · rw [← b3 (by omega) (by omega)]; omega
    have hll : (rb q ++ [ds.getD i 0 / 256]).length = (rb q).length + 1 := by simp
    (repeat' (first | (with_reducible refine i_ops ?_; first | (refine g_mv ?_; refine s_mv ?_) | refine o_nil ?_ | (refine g_some ?_; first | refine s_g_t ?_ | refine s_g_f ?_ | refine s_g_f' ?_ | refine s_g_u ?_) | (refine g_pick ?_; first | refine s_pick_t ?_ | refine s_pick_f ?_) | (refine g_len ?_; first | refine s_lenN ?_ | refine s_lenB ?_ | refine s_pure ?_) | (refine g_idx ?_; first | (refine s_idxN ?_; intro p hp; try simp only [Int.toNat_natCast] at hp) | (refine s_idxOB ?_; intro p hp hpw) | (refine s_idxB ?_; intro p hp)) | (refine g_pure ?_; first | refine s_c8 ?_ | refine s_nquoc ?_ | refine s_nremc ?_ | refine s_wshr ?_ | refine s_wremc ?_ | refine s_pure ?_ | refine s_saddB ?_) | (refine g_hload ?_; refine s_hloadP ?_) | (refine g_push ?_; (refine s_pushN ?_; intro w u' G' hle ho hkp))) | (with_reducible refine i_vc ?_; first | refine v_seq ?_ | refine v_ops ?_ | (refine g_cond ?_; first | refine s_cond_t ?_ | refine s_cond_f ?_) | refine v_block ?_ | refine v_skip ?_ | refine v_exit ?_ | refine v_ret ?_) | (with_reducible first | refine n_then ?_ | refine r_then ?_ | refine e_then ?_ | refine n_block ?_ | refine r_block ?_ | refine e_block_eq (by with_unfolding_all rfl) ?_ | refine e_block_ne (by with_unfolding_all rfl) ?_) | ((with_reducible first | refine s_g_c ?_ ?_ | refine s_cond_c ?_ ?_) <;> intro hb <;> rw [hb] <;> (try simp only [decide_eq_true_eq, decide_eq_false_iff_not, beq_iff_eq, bne_iff_ne, beq_eq_false_iff_ne, bne_eq_false_iff_eq, ne_eq, Int.not_lt, Int.not_le, gt_iff_lt, ge_iff_le, Bool.not_eq_true', Bool.not_eq_false'] at hb)) | ((with_reducible first | refine s_ret ?_ | refine s_normal ?_); try simp only [x_tup0, x_tup1, x_tup2, x_tup3, x_tup4, x_tup5, and_true, true_and])))
    all_goals try (exfalso; omega)
    all_goals try (have hH2 := h.le hle; clear hH)
    all_goals try (repeat' (first | (with_reducible refine i_ops ?_; first | (refine g_mv ?_; refine s_mv ?_) | refine o_nil ?_ | (refine g_some ?_; first | refine s_g_t ?_ | refine s_g_f ?_ | refine s_g_f' ?_ | refine s_g_u ?_) | (refine g_pick ?_; first | refine s_pick_t ?_ | refine s_pick_f ?_) | (refine g_len ?_; first | refine s_lenN ?_ | refine s_lenB ?_ | refine s_pure ?_) | (refine g_idx ?_; first | (refine s_idxN ?_; intro p hp; try simp only [Int.toNat_natCast] at hp) | (refine s_idxOB ?_; intro p hp hpw) | (refine s_idxB ?_; intro p hp)) | (refine g_pure ?_; first | refine s_c8 ?_ | refine s_nquoc ?_ | refine s_nremc ?_ | refine s_wshr ?_ | refine s_wremc ?_ | refine s_pure ?_ | refine s_saddB ?_) | (refine g_hload ?_; refine s_hloadP ?_) | (refine g_push ?_; (refine s_pushN ?_; intro w u' G' hle ho hkp))) | (with_reducible refine i_vc ?_; first | refine v_seq ?_ | refine v_ops ?_ | (refine g_cond ?_; first | refine s_cond_t ?_ | refine s_cond_f ?_) | refine v_block ?_ | refine v_skip ?_ | refine v_exit ?_ | refine v_ret ?_) | (with_reducible first | refine n_then ?_ | refine r_then ?_ | refine e_then ?_ | refine n_block ?_ | refine r_block ?_ | refine e_block_eq (by with_unfolding_all rfl) ?_ | refine e_block_ne (by with_unfolding_all rfl) ?_) | ((with_reducible first | refine s_g_c ?_ ?_ | refine s_cond_c ?_ ?_) <;> intro hb <;> rw [hb] <;> (try simp only [decide_eq_true_eq, decide_eq_false_iff_not, beq_iff_eq, bne_iff_ne, beq_eq_false_iff_ne, bne_eq_false_iff_eq, ne_eq, Int.not_lt, Int.not_le, gt_iff_lt, ge_iff_le, Bool.not_eq_true', Bool.not_eq_false'] at hb)) | ((with_reducible first | refine s_ret ?_ | refine s_normal ?_); try simp only [x_tup0, x_tup1, x_tup2, x_tup3, x_tup4, x_tup5, and_true, true_and])))
    all_goals try rw [b1 (by omega)] at ho
    all_goals try rw [b2 (by omega) (by omega) (by omega)] at ho
    all_goals try exact ⟨i, by omega, (i, _, _), rfl, ⟨by dsimp only; omega, hle, ho, by dsimp only; omega⟩, (by refine ⟨SL.get_fn (by with_unfolding_all rfl), SL.get_fn (by with_unfolding_all rfl), SL.get_fn (by with_unfolding_all rfl), trivial⟩), trivial, rfl⟩
    all_goals try (
      rw [b3 (by omega) (by omega)] at k3
      exact ⟨i, by omega, (i, _, _), rfl, ⟨by dsimp only; omega, k2, k3, by dsimp only; omega⟩, (by refine ⟨SL.get_fn (by with_unfolding_all rfl), SL.get_fn (by with_unfolding_all rfl), SL.get_fn (by with_unfolding_all rfl), trivial⟩), trivial, rfl⟩)
def bitR (xs : List Nat) (i : Int) : Nat := if i < 0 then 0 else val 18446744073709551616 xs / 2 ^ i.toNat % 2
theorem rBit (u : Value) (xs : List Nat) (i : Int) (G : GH) (h : Nu .u64 G u xs) (hd : Dl 18446744073709551616 xs) (hi : -9223372036854775808 ≤ i ∧ i ≤ 9223372036854775807) : HC Tryd.prog 15 #[u, .int .i64 i] G fun v G' => v = iv .u64 (bitR xs i) ∧ G' = G := by
  unfold bitR
  by_cases h0 : i < 0
  · rw [if_pos h0]
    refine HC.start comp15 rfl ?_; unfold pc15
    (repeat' (first | (with_reducible refine i_ops ?_; first | (refine g_mv ?_; refine s_mv ?_) | refine o_nil ?_ | (refine g_some ?_; first | refine s_g_t ?_ | refine s_g_f ?_ | refine s_g_f' ?_ | refine s_g_u ?_) | (refine g_pick ?_; first | refine s_pick_t ?_ | refine s_pick_f ?_) | (refine g_len ?_; first | refine s_lenN ?_ | refine s_lenB ?_ | refine s_pure ?_) | (refine g_idx ?_; first | (refine s_idxN ?_; intro p hp; try simp only [Int.toNat_natCast] at hp) | (refine s_idxOB ?_; intro p hp hpw) | (refine s_idxB ?_; intro p hp)) | (refine g_pure ?_; first | refine s_c8 ?_ | refine s_nquoc ?_ | refine s_nremc ?_ | refine s_wshr ?_ | refine s_wremc ?_ | refine s_pure ?_ | refine s_saddB ?_) | (refine g_hload ?_; refine s_hloadP ?_) | (refine g_push ?_; (refine s_pushN ?_; intro w u' G' hle ho hkp))) | (with_reducible refine i_vc ?_; first | refine v_seq ?_ | refine v_ops ?_ | (refine g_cond ?_; first | refine s_cond_t ?_ | refine s_cond_f ?_) | refine v_block ?_ | refine v_skip ?_ | refine v_exit ?_ | refine v_ret ?_) | (with_reducible first | refine n_then ?_ | refine r_then ?_ | refine e_then ?_ | refine n_block ?_ | refine r_block ?_ | refine e_block_eq (by with_unfolding_all rfl) ?_ | refine e_block_ne (by with_unfolding_all rfl) ?_) | ((with_reducible first | refine s_g_c ?_ ?_ | refine s_cond_c ?_ ?_) <;> intro hb <;> rw [hb] <;> (try simp only [decide_eq_true_eq, decide_eq_false_iff_not, beq_iff_eq, bne_iff_ne, beq_eq_false_iff_ne, bne_eq_false_iff_eq, ne_eq, Int.not_lt, Int.not_le, gt_iff_lt, ge_iff_le, Bool.not_eq_true', Bool.not_eq_false'] at hb)) | ((with_reducible first | refine s_ret ?_ | refine s_normal ?_); try simp only [x_tup0, x_tup1, x_tup2, x_tup3, x_tup4, x_tup5, and_true, true_and])))
    all_goals first | rfl | (exfalso; omega)
  · rw [if_neg h0]
    obtain ⟨n, rfl⟩ : ∃ n : Nat, i = n := ⟨i.toNat, by omega⟩
    rw [Int.toNat_natCast, bit_of hd n]
    have hg := hd.getD (by decide) (n / 64)
    refine HC.start comp15 rfl ?_; unfold pc15
    (repeat' (first | (with_reducible refine i_ops ?_; first | (refine g_mv ?_; refine s_mv ?_) | refine o_nil ?_ | (refine g_some ?_; first | refine s_g_t ?_ | refine s_g_f ?_ | refine s_g_f' ?_ | refine s_g_u ?_) | (refine g_pick ?_; first | refine s_pick_t ?_ | refine s_pick_f ?_) | (refine g_len ?_; first | refine s_lenN ?_ | refine s_lenB ?_ | refine s_pure ?_) | (refine g_idx ?_; first | (refine s_idxN ?_; intro p hp; try simp only [Int.toNat_natCast] at hp) | (refine s_idxOB ?_; intro p hp hpw) | (refine s_idxB ?_; intro p hp)) | (refine g_pure ?_; first | refine s_c8 ?_ | refine s_nquoc ?_ | refine s_nremc ?_ | refine s_wshr ?_ | refine s_wremc ?_ | refine s_pure ?_ | refine s_saddB ?_) | (refine g_hload ?_; refine s_hloadP ?_) | (refine g_push ?_; (refine s_pushN ?_; intro w u' G' hle ho hkp))) | (with_reducible refine i_vc ?_; first | refine v_seq ?_ | refine v_ops ?_ | (refine g_cond ?_; first | refine s_cond_t ?_ | refine s_cond_f ?_) | refine v_block ?_ | refine v_skip ?_ | refine v_exit ?_ | refine v_ret ?_) | (with_reducible first | refine n_then ?_ | refine r_then ?_ | refine e_then ?_ | refine n_block ?_ | refine r_block ?_ | refine e_block_eq (by with_unfolding_all rfl) ?_ | refine e_block_ne (by with_unfolding_all rfl) ?_) | ((with_reducible first | refine s_g_c ?_ ?_ | refine s_cond_c ?_ ?_) <;> intro hb <;> rw [hb] <;> (try simp only [decide_eq_true_eq, decide_eq_false_iff_not, beq_iff_eq, bne_iff_ne, beq_eq_false_iff_ne, bne_eq_false_iff_eq, ne_eq, Int.not_lt, Int.not_le, gt_iff_lt, ge_iff_le, Bool.not_eq_true', Bool.not_eq_false'] at hb)) | ((with_reducible first | refine s_ret ?_ | refine s_normal ?_); try simp only [x_tup0, x_tup1, x_tup2, x_tup3, x_tup4, x_tup5, and_true, true_and])))
    · exfalso; omega
    · rw [getD_ge xs (by omega), Nat.zero_div]; rfl
theorem nBitI (u : Value) (xs : List Nat) (i : Int) (G : GH) (h : Nu .u64 G u xs) (hd : Dl 18446744073709551616 xs) (hi : -9223372036854775808 ≤ i ∧ i ≤ 9223372036854775807) : HC Tryd.prog 14 #[u, .int .i64 i] G fun v G' => v = iv .u64 (bitR xs i) ∧ G' = G := by
  unfold bitR
  by_cases h0 : i < 0
  · rw [if_pos h0]
    refine HC.start comp14 rfl ?_; unfold pc14
    (repeat' (first | (with_reducible refine i_ops ?_; first | (refine g_mv ?_; refine s_mv ?_) | refine o_nil ?_ | (refine g_some ?_; first | refine s_g_t ?_ | refine s_g_f ?_ | refine s_g_f' ?_ | refine s_g_u ?_) | (refine g_pick ?_; first | refine s_pick_t ?_ | refine s_pick_f ?_) | (refine g_len ?_; first | refine s_lenN ?_ | refine s_lenB ?_ | refine s_pure ?_) | (refine g_idx ?_; first | (refine s_idxN ?_; intro p hp; try simp only [Int.toNat_natCast] at hp) | (refine s_idxOB ?_; intro p hp hpw) | (refine s_idxB ?_; intro p hp)) | (refine g_pure ?_; first | refine s_c8 ?_ | refine s_nquoc ?_ | refine s_nremc ?_ | refine s_wshr ?_ | refine s_wremc ?_ | refine s_pure ?_ | refine s_saddB ?_) | (refine g_hload ?_; refine s_hloadP ?_) | (refine g_push ?_; (refine s_pushN ?_; intro w u' G' hle ho hkp))) | (with_reducible refine i_vc ?_; first | refine v_seq ?_ | refine v_ops ?_ | (refine g_cond ?_; first | refine s_cond_t ?_ | refine s_cond_f ?_) | refine v_block ?_ | refine v_skip ?_ | refine v_exit ?_ | refine v_ret ?_) | (with_reducible first | refine n_then ?_ | refine r_then ?_ | refine e_then ?_ | refine n_block ?_ | refine r_block ?_ | refine e_block_eq (by with_unfolding_all rfl) ?_ | refine e_block_ne (by with_unfolding_all rfl) ?_) | ((with_reducible first | refine s_g_c ?_ ?_ | refine s_cond_c ?_ ?_) <;> intro hb <;> rw [hb] <;> (try simp only [decide_eq_true_eq, decide_eq_false_iff_not, beq_iff_eq, bne_iff_ne, beq_eq_false_iff_ne, bne_eq_false_iff_eq, ne_eq, Int.not_lt, Int.not_le, gt_iff_lt, ge_iff_le, Bool.not_eq_true', Bool.not_eq_false'] at hb)) | ((with_reducible first | refine s_ret ?_ | refine s_normal ?_); try simp only [x_tup0, x_tup1, x_tup2, x_tup3, x_tup4, x_tup5, and_true, true_and])))
    all_goals first | rfl | (exfalso; omega)
  · rw [if_neg h0]
    obtain ⟨n, rfl⟩ : ∃ n : Nat, i = n := ⟨i.toNat, by omega⟩
    exact nBit u xs n G h hd (by omega)
end Go.Proofs.YtfacphjjkanajaaDoor.V
