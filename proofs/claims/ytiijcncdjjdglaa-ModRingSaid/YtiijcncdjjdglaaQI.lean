/- ModRing. -/
import Derived.Test.YtiijcncdjjdglaaQH
set_option linter.unusedSimpArgs false
set_option linter.unusedVariables false
-- @nums
-- @extra s_nilPf s_nilPt s_nilNf s_nilNt s_nilck s_fptr0
namespace Go.Proofs.Ytiijcncdjjdglaa.V
open Go.RowKit Go.ChangeShapes Go.WideShapes
theorem ln_short {xs : List Nat} (hd : Dl 18446744073709551616 xs) {n : Nat} (h : xs.length ≤ n) : ln xs ≤ n := Nat.le_trans (ln_le hd) h
theorem ln_dg (x : Nat) : ln (dg 18446744073709551616 x) = (dg 18446744073709551616 x).length := by unfold ln; rw [val_dg (by decide)]
theorem lnM {G : GH} {b M : Nat} (h : MO G b M) (x : Nat) : ln (dg 18446744073709551616 (x % M)) ≤ 64 := by
  have h1 := h.h1
  have h8 := h.h8
  have := len_lt (Nat.mod_lt x (show M > 0 by omega))
  rw [ln_dg]; omega
/-- The sum, by numbers that are not too long. -/
theorem AddG {G : GH} {b M : Nat} (h : MO G b M) {u v : Value} {xs ys : List Nat} (hu : Nu .u64 G u xs) (hv : Nu .u64 G v ys) (hd : Dl 18446744073709551616 xs) (he : Dl 18446744073709551616 ys) (hx : ln xs ≤ 64) (hy : ln ys ≤ 64) : HC Try.prog 12 #[pt b, u, v] G fun w G' => G.le G' ∧ ∃ r, w = .tuple #[r, .int .i64 0] ∧ Own 1 G G' r ((dg 18446744073709551616 ((val 18446744073709551616 xs + val 18446744073709551616 ys) % M)).map (iv .u64)) := by
  obtain ⟨⟨um, low, ur, uq, h1, h2, h3, h4⟩, h5⟩ := h
  exact (Add' h1 u v xs ys hu hv hd he).mono fun v G' hr => hr.good ⟨hx, hy⟩
theorem SubG {G : GH} {b M : Nat} (h : MO G b M) {u v : Value} {xs ys : List Nat} (hu : Nu .u64 G u xs) (hv : Nu .u64 G v ys) (hd : Dl 18446744073709551616 xs) (he : Dl 18446744073709551616 ys) (hx : ln xs ≤ 64) (hy : ln ys ≤ 64) : HC Try.prog 13 #[pt b, u, v] G fun w G' => G.le G' ∧ ∃ r, w = .tuple #[r, .int .i64 0] ∧ Own 1 G G' r ((dg 18446744073709551616 ((val 18446744073709551616 xs % M + M - val 18446744073709551616 ys % M) % M)).map (iv .u64)) := by
  obtain ⟨⟨um, low, ur, uq, h1, h2, h3, h4⟩, h5⟩ := h
  exact (Sub' h1 u v xs ys hu hv hd he).mono fun v G' hr => hr.good ⟨hx, hy⟩
theorem MulG {G : GH} {b M : Nat} (h : MO G b M) {u v : Value} {xs ys : List Nat} (hu : Nu .u64 G u xs) (hv : Nu .u64 G v ys) (hd : Dl 18446744073709551616 xs) (he : Dl 18446744073709551616 ys) (hx : ln xs ≤ 64) (hy : ln ys ≤ 64) : HC Try.prog 16 #[pt b, u, v] G fun w G' => G.le G' ∧ ∃ r, w = .tuple #[r, .int .i64 0] ∧ Own 1 G G' r ((dg 18446744073709551616 (val 18446744073709551616 xs * val 18446744073709551616 ys % M)).map (iv .u64)) :=
  (Mul' h u v xs ys hu hv hd he).mono fun v G' hr => hr.good ⟨hx, hy⟩
theorem ReduceG {G : GH} {b M : Nat} (h : MO G b M) {u : Value} {xs : List Nat} (hu : Nu .u64 G u xs) (hd : Dl 18446744073709551616 xs) (hx : ln xs ≤ 64) : HC Try.prog 14 #[pt b, u] G fun w G' => G.le G' ∧ ∃ r, w = .tuple #[r, .int .i64 0] ∧ Own 1 G G' r ((dg 18446744073709551616 (val 18446744073709551616 xs % M)).map (iv .u64)) := by
  obtain ⟨⟨um, low, ur, uq, h1, h2, h3, h4⟩, h5⟩ := h
  exact (Reduce h1 u xs hu hd).mono fun v G' hr => hr.good hx
theorem sub_back {a b M : Nat} (hM : 0 < M) : ((a + b) % M % M + M - b % M) % M = a % M := by
  rw [Nat.mod_mod]
  have h1 := Nat.mod_lt b hM
  have h2 : ((a + b) % M + M - b % M + b % M) % M = (a % M + b % M) % M := by
    rw [Nat.sub_add_cancel (by omega), Nat.add_mod_right, Nat.mod_mod, Nat.add_mod]
  have h3 := add_cancel_mod h2
  rw [h3, Nat.mod_mod]
theorem lawRing (ul ua ub : Value) (ll al bl : List Nat) (G : GH) (hl : Nu .u64 G ul ll) (ha : Nu .u64 G ua al) (hc : Nu .u64 G ub bl) (dl : Dl 18446744073709551616 ll) (da : Dl 18446744073709551616 al) (db : Dl 18446744073709551616 bl) :
    HC Try.prog 3 #[ul, ua, ub] G fun v G' => v = .bool true ∧ G.le G' := by
  refine HC.start comp3 rfl ?_; unfold pc3
  (repeat' (first | (with_reducible refine i_ops ?_; first | (refine g_mv ?_; refine s_mv ?_) | refine o_nil ?_ | (refine g_some ?_; first | refine s_g_t ?_ | refine s_g_f ?_ | refine s_g_f' ?_ | refine s_g_u ?_) | (refine g_pick ?_; first | refine s_pick_t ?_ | refine s_pick_f ?_) | (refine g_pure ?_; first | refine s_nilPf ?_ | refine s_nilPt ?_ | refine s_nilNf ?_ | refine s_nilNt ?_ | refine s_nilck ?_ | refine s_fptr0 ?_ | refine s_pure ?_ | refine s_saddB ?_)) | (with_reducible refine i_vc ?_; first | refine v_seq ?_ | refine v_ops ?_ | (refine g_cond ?_; first | refine s_cond_t ?_ | refine s_cond_f ?_) | refine v_skip ?_ | refine v_ret ?_) | (with_reducible first | refine n_then ?_ | refine r_then ?_ | refine e_then ?_) | ((with_reducible first | refine s_g_c ?_ ?_ | refine s_cond_c ?_ ?_) <;> intro hb <;> rw [hb] <;> (try simp only [decide_eq_true_eq, decide_eq_false_iff_not, beq_iff_eq, bne_iff_ne, beq_eq_false_iff_ne, bne_eq_false_iff_eq, ne_eq, Int.not_lt, Int.not_le, gt_iff_lt, ge_iff_le, Bool.not_eq_true', Bool.not_eq_false'] at hb)) | ((with_reducible first | refine s_ret ?_ | refine s_normal ?_); try simp only [x_tup0, x_tup1, x_tup2, x_tup3, x_tup4, x_tup5, and_true, true_and])))
  refine o_callc (by with_unfolding_all rfl) (odd ul ll 8 G hl dl (by decide) (by decide)) ?_
  rintro z G1 ⟨hle1, zs, dz, lz, z1, z2, hz⟩
  refine o_callc (by with_unfolding_all rfl) (New z zs G1 hz dz) ?_
  have lz8 := ln_short dz lz
  rintro _ G2 ⟨hle2, ⟨h, _⟩ | ⟨_, h, _⟩ | ⟨_, _, _, b, rfl, hM⟩⟩
  · omega
  · omega
  generalize val 18446744073709551616 zs = M at *
  have hle02 := GH.le_trans hle1 hle2
  (repeat' (first | (with_reducible refine i_ops ?_; first | (refine g_mv ?_; refine s_mv ?_) | refine o_nil ?_ | (refine g_some ?_; first | refine s_g_t ?_ | refine s_g_f ?_ | refine s_g_f' ?_ | refine s_g_u ?_) | (refine g_pick ?_; first | refine s_pick_t ?_ | refine s_pick_f ?_) | (refine g_pure ?_; first | refine s_nilPf ?_ | refine s_nilPt ?_ | refine s_nilNf ?_ | refine s_nilNt ?_ | refine s_nilck ?_ | refine s_fptr0 ?_ | refine s_pure ?_ | refine s_saddB ?_)) | (with_reducible refine i_vc ?_; first | refine v_seq ?_ | refine v_ops ?_ | (refine g_cond ?_; first | refine s_cond_t ?_ | refine s_cond_f ?_) | refine v_skip ?_ | refine v_ret ?_) | (with_reducible first | refine n_then ?_ | refine r_then ?_ | refine e_then ?_) | ((with_reducible first | refine s_g_c ?_ ?_ | refine s_cond_c ?_ ?_) <;> intro hb <;> rw [hb] <;> (try simp only [decide_eq_true_eq, decide_eq_false_iff_not, beq_iff_eq, bne_iff_ne, beq_eq_false_iff_ne, bne_eq_false_iff_eq, ne_eq, Int.not_lt, Int.not_le, gt_iff_lt, ge_iff_le, Bool.not_eq_true', Bool.not_eq_false'] at hb)) | ((with_reducible first | refine s_ret ?_ | refine s_normal ?_); try simp only [x_tup0, x_tup1, x_tup2, x_tup3, x_tup4, x_tup5, and_true, true_and])))
  refine o_callc (by with_unfolding_all rfl) (short7 ua al 20 G2 (ha.le hle02)) ?_
  rintro a G3 ⟨rfl, ha3⟩
  (repeat' (first | (with_reducible refine i_ops ?_; first | (refine g_mv ?_; refine s_mv ?_) | refine o_nil ?_ | (refine g_some ?_; first | refine s_g_t ?_ | refine s_g_f ?_ | refine s_g_f' ?_ | refine s_g_u ?_) | (refine g_pick ?_; first | refine s_pick_t ?_ | refine s_pick_f ?_) | (refine g_pure ?_; first | refine s_nilPf ?_ | refine s_nilPt ?_ | refine s_nilNf ?_ | refine s_nilNt ?_ | refine s_nilck ?_ | refine s_fptr0 ?_ | refine s_pure ?_ | refine s_saddB ?_)) | (with_reducible refine i_vc ?_; first | refine v_seq ?_ | refine v_ops ?_ | (refine g_cond ?_; first | refine s_cond_t ?_ | refine s_cond_f ?_) | refine v_skip ?_ | refine v_ret ?_) | (with_reducible first | refine n_then ?_ | refine r_then ?_ | refine e_then ?_) | ((with_reducible first | refine s_g_c ?_ ?_ | refine s_cond_c ?_ ?_) <;> intro hb <;> rw [hb] <;> (try simp only [decide_eq_true_eq, decide_eq_false_iff_not, beq_iff_eq, bne_iff_ne, beq_eq_false_iff_ne, bne_eq_false_iff_eq, ne_eq, Int.not_lt, Int.not_le, gt_iff_lt, ge_iff_le, Bool.not_eq_true', Bool.not_eq_false'] at hb)) | ((with_reducible first | refine s_ret ?_ | refine s_normal ?_); try simp only [x_tup0, x_tup1, x_tup2, x_tup3, x_tup4, x_tup5, and_true, true_and])))
  refine o_callc (by with_unfolding_all rfl) (short7 ub bl 20 G3 (hc.le hle02)) ?_
  rintro c G4 ⟨rfl, hc3⟩
  have da3 := da.take 20
  have dc3 := db.take 20
  have la : ln (al.take 20) ≤ 64 := Nat.le_trans (ln_short da3 (by rw [List.length_take]; omega)) (by decide : 20 ≤ 64)
  have lc : ln (bl.take 20) ≤ 64 := Nat.le_trans (ln_short dc3 (by rw [List.length_take]; omega)) (by decide : 20 ≤ 64)
  generalize al.take 20 = xs at *
  generalize bl.take 20 = ys at *
  obtain ⟨A, hA⟩ : ∃ A, A = val 18446744073709551616 xs := ⟨_, rfl⟩
  obtain ⟨B, hB⟩ : ∃ B, B = val 18446744073709551616 ys := ⟨_, rfl⟩
  have hM1 := hM.h1
  have hM0 : 0 < M := by omega
  have V : ∀ x : Nat, val 18446744073709551616 (dg 18446744073709551616 x) = x := fun x => val_dg (by decide) x
  have D : ∀ x : Nat, Dl 18446744073709551616 (dg 18446744073709551616 x) := fun x => dg_lt (by decide) x
  have L : ∀ x : Nat, ln (dg 18446744073709551616 (x % M)) ≤ 64 := lnM hM
  (repeat' (first | (with_reducible refine i_ops ?_; first | (refine g_mv ?_; refine s_mv ?_) | refine o_nil ?_ | (refine g_some ?_; first | refine s_g_t ?_ | refine s_g_f ?_ | refine s_g_f' ?_ | refine s_g_u ?_) | (refine g_pick ?_; first | refine s_pick_t ?_ | refine s_pick_f ?_) | (refine g_pure ?_; first | refine s_nilPf ?_ | refine s_nilPt ?_ | refine s_nilNf ?_ | refine s_nilNt ?_ | refine s_nilck ?_ | refine s_fptr0 ?_ | refine s_pure ?_ | refine s_saddB ?_)) | (with_reducible refine i_vc ?_; first | refine v_seq ?_ | refine v_ops ?_ | (refine g_cond ?_; first | refine s_cond_t ?_ | refine s_cond_f ?_) | refine v_skip ?_ | refine v_ret ?_) | (with_reducible first | refine n_then ?_ | refine r_then ?_ | refine e_then ?_) | ((with_reducible first | refine s_g_c ?_ ?_ | refine s_cond_c ?_ ?_) <;> intro hb <;> rw [hb] <;> (try simp only [decide_eq_true_eq, decide_eq_false_iff_not, beq_iff_eq, bne_iff_ne, beq_eq_false_iff_ne, bne_eq_false_iff_eq, ne_eq, Int.not_lt, Int.not_le, gt_iff_lt, ge_iff_le, Bool.not_eq_true', Bool.not_eq_false'] at hb)) | ((with_reducible first | refine s_ret ?_ | refine s_normal ?_); try simp only [x_tup0, x_tup1, x_tup2, x_tup3, x_tup4, x_tup5, and_true, true_and])))
  refine o_callc (by with_unfolding_all rfl) (AddG hM ha3 hc3 da3 dc3 la lc) ?_
  rw [← hA, ← hB]
  rintro _ G5 ⟨h5, s, rfl, hs⟩
  have k5 : G4.le G5 := h5
  (repeat' (first | (with_reducible refine i_ops ?_; first | (refine g_mv ?_; refine s_mv ?_) | refine o_nil ?_ | (refine g_some ?_; first | refine s_g_t ?_ | refine s_g_f ?_ | refine s_g_f' ?_ | refine s_g_u ?_) | (refine g_pick ?_; first | refine s_pick_t ?_ | refine s_pick_f ?_) | (refine g_pure ?_; first | refine s_nilPf ?_ | refine s_nilPt ?_ | refine s_nilNf ?_ | refine s_nilNt ?_ | refine s_nilck ?_ | refine s_fptr0 ?_ | refine s_pure ?_ | refine s_saddB ?_)) | (with_reducible refine i_vc ?_; first | refine v_seq ?_ | refine v_ops ?_ | (refine g_cond ?_; first | refine s_cond_t ?_ | refine s_cond_f ?_) | refine v_skip ?_ | refine v_ret ?_) | (with_reducible first | refine n_then ?_ | refine r_then ?_ | refine e_then ?_) | ((with_reducible first | refine s_g_c ?_ ?_ | refine s_cond_c ?_ ?_) <;> intro hb <;> rw [hb] <;> (try simp only [decide_eq_true_eq, decide_eq_false_iff_not, beq_iff_eq, bne_iff_ne, beq_eq_false_iff_ne, bne_eq_false_iff_eq, ne_eq, Int.not_lt, Int.not_le, gt_iff_lt, ge_iff_le, Bool.not_eq_true', Bool.not_eq_false'] at hb)) | ((with_reducible first | refine s_ret ?_ | refine s_normal ?_); try simp only [x_tup0, x_tup1, x_tup2, x_tup3, x_tup4, x_tup5, and_true, true_and])))
  refine o_callc (by with_unfolding_all rfl) (AddG (hM.le k5) (hc3.le k5) (ha3.le k5) dc3 da3 lc la) ?_
  rw [← hA, ← hB, Nat.add_comm B A]
  rintro _ G6 ⟨h6, t, rfl, ht⟩
  have k6 : G4.le G6 := GH.le_trans k5 h6
  (repeat' (first | (with_reducible refine i_ops ?_; first | (refine g_mv ?_; refine s_mv ?_) | refine o_nil ?_ | (refine g_some ?_; first | refine s_g_t ?_ | refine s_g_f ?_ | refine s_g_f' ?_ | refine s_g_u ?_) | (refine g_pick ?_; first | refine s_pick_t ?_ | refine s_pick_f ?_) | (refine g_pure ?_; first | refine s_nilPf ?_ | refine s_nilPt ?_ | refine s_nilNf ?_ | refine s_nilNt ?_ | refine s_nilck ?_ | refine s_fptr0 ?_ | refine s_pure ?_ | refine s_saddB ?_)) | (with_reducible refine i_vc ?_; first | refine v_seq ?_ | refine v_ops ?_ | (refine g_cond ?_; first | refine s_cond_t ?_ | refine s_cond_f ?_) | refine v_skip ?_ | refine v_ret ?_) | (with_reducible first | refine n_then ?_ | refine r_then ?_ | refine e_then ?_) | ((with_reducible first | refine s_g_c ?_ ?_ | refine s_cond_c ?_ ?_) <;> intro hb <;> rw [hb] <;> (try simp only [decide_eq_true_eq, decide_eq_false_iff_not, beq_iff_eq, bne_iff_ne, beq_eq_false_iff_ne, bne_eq_false_iff_eq, ne_eq, Int.not_lt, Int.not_le, gt_iff_lt, ge_iff_le, Bool.not_eq_true', Bool.not_eq_false'] at hb)) | ((with_reducible first | refine s_ret ?_ | refine s_normal ?_); try simp only [x_tup0, x_tup1, x_tup2, x_tup3, x_tup4, x_tup5, and_true, true_and])))
  refine o_callc (by with_unfolding_all rfl) (SubG (hM.le k6) (hs.sl.le h6) (hc3.le k6) (D _) dc3 (L _) lc) ?_
  rw [V, ← hB, sub_back hM0]
  rintro _ G7 ⟨h7, d, rfl, hd⟩
  have k7 : G4.le G7 := GH.le_trans k6 h7
  (repeat' (first | (with_reducible refine i_ops ?_; first | (refine g_mv ?_; refine s_mv ?_) | refine o_nil ?_ | (refine g_some ?_; first | refine s_g_t ?_ | refine s_g_f ?_ | refine s_g_f' ?_ | refine s_g_u ?_) | (refine g_pick ?_; first | refine s_pick_t ?_ | refine s_pick_f ?_) | (refine g_pure ?_; first | refine s_nilPf ?_ | refine s_nilPt ?_ | refine s_nilNf ?_ | refine s_nilNt ?_ | refine s_nilck ?_ | refine s_fptr0 ?_ | refine s_pure ?_ | refine s_saddB ?_)) | (with_reducible refine i_vc ?_; first | refine v_seq ?_ | refine v_ops ?_ | (refine g_cond ?_; first | refine s_cond_t ?_ | refine s_cond_f ?_) | refine v_skip ?_ | refine v_ret ?_) | (with_reducible first | refine n_then ?_ | refine r_then ?_ | refine e_then ?_) | ((with_reducible first | refine s_g_c ?_ ?_ | refine s_cond_c ?_ ?_) <;> intro hb <;> rw [hb] <;> (try simp only [decide_eq_true_eq, decide_eq_false_iff_not, beq_iff_eq, bne_iff_ne, beq_eq_false_iff_ne, bne_eq_false_iff_eq, ne_eq, Int.not_lt, Int.not_le, gt_iff_lt, ge_iff_le, Bool.not_eq_true', Bool.not_eq_false'] at hb)) | ((with_reducible first | refine s_ret ?_ | refine s_normal ?_); try simp only [x_tup0, x_tup1, x_tup2, x_tup3, x_tup4, x_tup5, and_true, true_and])))
  refine o_callc (by with_unfolding_all rfl) (ReduceG (hM.le k7) (ha3.le k7) da3 la) ?_
  rw [← hA]
  rintro _ G8 ⟨h8, x, rfl, hx⟩
  have k8 : G4.le G8 := GH.le_trans k7 h8
  have s8 : Nu .u64 G8 s (dg 18446744073709551616 ((A + B) % M)) := hs.sl.le (GH.le_trans h6 (GH.le_trans h7 h8))
  have t8 : Nu .u64 G8 t (dg 18446744073709551616 ((A + B) % M)) := ht.sl.le (GH.le_trans h7 h8)
  have d8 : Nu .u64 G8 d (dg 18446744073709551616 (A % M)) := hd.sl.le h8
  have x8 : Nu .u64 G8 x (dg 18446744073709551616 (A % M)) := hx.sl
  (repeat' (first | (with_reducible refine i_ops ?_; first | (refine g_mv ?_; refine s_mv ?_) | refine o_nil ?_ | (refine g_some ?_; first | refine s_g_t ?_ | refine s_g_f ?_ | refine s_g_f' ?_ | refine s_g_u ?_) | (refine g_pick ?_; first | refine s_pick_t ?_ | refine s_pick_f ?_) | (refine g_pure ?_; first | refine s_nilPf ?_ | refine s_nilPt ?_ | refine s_nilNf ?_ | refine s_nilNt ?_ | refine s_nilck ?_ | refine s_fptr0 ?_ | refine s_pure ?_ | refine s_saddB ?_) | refine o_callp (by with_unfolding_all rfl) (by first | exact same7 s t _ G8 s8 t8 | exact same7 d x _ G8 d8 x8) ?_ | (refine o_callg (by with_unfolding_all rfl) (by first | exact same7 s t _ G8 s8 t8 | exact same7 d x _ G8 d8 x8) ?_; intro G' hle)) | (with_reducible refine i_vc ?_; first | refine v_seq ?_ | refine v_ops ?_ | (refine g_cond ?_; first | refine s_cond_t ?_ | refine s_cond_f ?_) | refine v_skip ?_ | refine v_ret ?_) | (with_reducible first | refine n_then ?_ | refine r_then ?_ | refine e_then ?_) | ((with_reducible first | refine s_g_c ?_ ?_ | refine s_cond_c ?_ ?_) <;> intro hb <;> rw [hb] <;> (try simp only [decide_eq_true_eq, decide_eq_false_iff_not, beq_iff_eq, bne_iff_ne, beq_eq_false_iff_ne, bne_eq_false_iff_eq, ne_eq, Int.not_lt, Int.not_le, gt_iff_lt, ge_iff_le, Bool.not_eq_true', Bool.not_eq_false'] at hb)) | ((with_reducible first | refine s_ret ?_ | refine s_normal ?_); try simp only [x_tup0, x_tup1, x_tup2, x_tup3, x_tup4, x_tup5, and_true, true_and])))
  refine o_callc (by with_unfolding_all rfl) (MulG (hM.le k8) (ha3.le k8) (hc3.le k8) da3 dc3 la lc) ?_
  rw [← hA, ← hB]
  rintro _ G9 ⟨h9, p, rfl, hp⟩
  have k9 : G4.le G9 := GH.le_trans k8 h9
  (repeat' (first | (with_reducible refine i_ops ?_; first | (refine g_mv ?_; refine s_mv ?_) | refine o_nil ?_ | (refine g_some ?_; first | refine s_g_t ?_ | refine s_g_f ?_ | refine s_g_f' ?_ | refine s_g_u ?_) | (refine g_pick ?_; first | refine s_pick_t ?_ | refine s_pick_f ?_) | (refine g_pure ?_; first | refine s_nilPf ?_ | refine s_nilPt ?_ | refine s_nilNf ?_ | refine s_nilNt ?_ | refine s_nilck ?_ | refine s_fptr0 ?_ | refine s_pure ?_ | refine s_saddB ?_)) | (with_reducible refine i_vc ?_; first | refine v_seq ?_ | refine v_ops ?_ | (refine g_cond ?_; first | refine s_cond_t ?_ | refine s_cond_f ?_) | refine v_skip ?_ | refine v_ret ?_) | (with_reducible first | refine n_then ?_ | refine r_then ?_ | refine e_then ?_) | ((with_reducible first | refine s_g_c ?_ ?_ | refine s_cond_c ?_ ?_) <;> intro hb <;> rw [hb] <;> (try simp only [decide_eq_true_eq, decide_eq_false_iff_not, beq_iff_eq, bne_iff_ne, beq_eq_false_iff_ne, bne_eq_false_iff_eq, ne_eq, Int.not_lt, Int.not_le, gt_iff_lt, ge_iff_le, Bool.not_eq_true', Bool.not_eq_false'] at hb)) | ((with_reducible first | refine s_ret ?_ | refine s_normal ?_); try simp only [x_tup0, x_tup1, x_tup2, x_tup3, x_tup4, x_tup5, and_true, true_and])))
  refine o_callc (by with_unfolding_all rfl) (MulG (hM.le k9) (hc3.le k9) (ha3.le k9) dc3 da3 lc la) ?_
  rw [← hA, ← hB, Nat.mul_comm B A]
  rintro _ G10 ⟨h10, q, rfl, hq⟩
  have k10 : G4.le G10 := GH.le_trans k9 h10
  have p10 : Nu .u64 G10 p (dg 18446744073709551616 (A * B % M)) := hp.sl.le h10
  have s10 : Nu .u64 G10 s (dg 18446744073709551616 ((A + B) % M)) := s8.le (GH.le_trans h9 h10)
  (repeat' (first | (with_reducible refine i_ops ?_; first | (refine g_mv ?_; refine s_mv ?_) | refine o_nil ?_ | (refine g_some ?_; first | refine s_g_t ?_ | refine s_g_f ?_ | refine s_g_f' ?_ | refine s_g_u ?_) | (refine g_pick ?_; first | refine s_pick_t ?_ | refine s_pick_f ?_) | (refine g_pure ?_; first | refine s_nilPf ?_ | refine s_nilPt ?_ | refine s_nilNf ?_ | refine s_nilNt ?_ | refine s_nilck ?_ | refine s_fptr0 ?_ | refine s_pure ?_ | refine s_saddB ?_)) | (with_reducible refine i_vc ?_; first | refine v_seq ?_ | refine v_ops ?_ | (refine g_cond ?_; first | refine s_cond_t ?_ | refine s_cond_f ?_) | refine v_skip ?_ | refine v_ret ?_) | (with_reducible first | refine n_then ?_ | refine r_then ?_ | refine e_then ?_) | ((with_reducible first | refine s_g_c ?_ ?_ | refine s_cond_c ?_ ?_) <;> intro hb <;> rw [hb] <;> (try simp only [decide_eq_true_eq, decide_eq_false_iff_not, beq_iff_eq, bne_iff_ne, beq_eq_false_iff_ne, bne_eq_false_iff_eq, ne_eq, Int.not_lt, Int.not_le, gt_iff_lt, ge_iff_le, Bool.not_eq_true', Bool.not_eq_false'] at hb)) | ((with_reducible first | refine s_ret ?_ | refine s_normal ?_); try simp only [x_tup0, x_tup1, x_tup2, x_tup3, x_tup4, x_tup5, and_true, true_and])))
  refine o_callc (by with_unfolding_all rfl) (MulG (hM.le k10) p10 s10 (D _) (D _) (L _) (L _)) ?_
  rw [V, V]
  rintro _ G11 ⟨h11, u, rfl, hu⟩
  have k11 : G4.le G11 := GH.le_trans k10 h11
  (repeat' (first | (with_reducible refine i_ops ?_; first | (refine g_mv ?_; refine s_mv ?_) | refine o_nil ?_ | (refine g_some ?_; first | refine s_g_t ?_ | refine s_g_f ?_ | refine s_g_f' ?_ | refine s_g_u ?_) | (refine g_pick ?_; first | refine s_pick_t ?_ | refine s_pick_f ?_) | (refine g_pure ?_; first | refine s_nilPf ?_ | refine s_nilPt ?_ | refine s_nilNf ?_ | refine s_nilNt ?_ | refine s_nilck ?_ | refine s_fptr0 ?_ | refine s_pure ?_ | refine s_saddB ?_)) | (with_reducible refine i_vc ?_; first | refine v_seq ?_ | refine v_ops ?_ | (refine g_cond ?_; first | refine s_cond_t ?_ | refine s_cond_f ?_) | refine v_skip ?_ | refine v_ret ?_) | (with_reducible first | refine n_then ?_ | refine r_then ?_ | refine e_then ?_) | ((with_reducible first | refine s_g_c ?_ ?_ | refine s_cond_c ?_ ?_) <;> intro hb <;> rw [hb] <;> (try simp only [decide_eq_true_eq, decide_eq_false_iff_not, beq_iff_eq, bne_iff_ne, beq_eq_false_iff_ne, bne_eq_false_iff_eq, ne_eq, Int.not_lt, Int.not_le, gt_iff_lt, ge_iff_le, Bool.not_eq_true', Bool.not_eq_false'] at hb)) | ((with_reducible first | refine s_ret ?_ | refine s_normal ?_); try simp only [x_tup0, x_tup1, x_tup2, x_tup3, x_tup4, x_tup5, and_true, true_and])))
  refine o_callc (by with_unfolding_all rfl) (MulG (hM.le k11) (ha3.le k11) (s10.le h11) da3 (D _) la (L _)) ?_
  rw [V, ← hA]
  rintro _ G12 ⟨h12, v, rfl, hv⟩
  have k12 : G4.le G12 := GH.le_trans k11 h12
  (repeat' (first | (with_reducible refine i_ops ?_; first | (refine g_mv ?_; refine s_mv ?_) | refine o_nil ?_ | (refine g_some ?_; first | refine s_g_t ?_ | refine s_g_f ?_ | refine s_g_f' ?_ | refine s_g_u ?_) | (refine g_pick ?_; first | refine s_pick_t ?_ | refine s_pick_f ?_) | (refine g_pure ?_; first | refine s_nilPf ?_ | refine s_nilPt ?_ | refine s_nilNf ?_ | refine s_nilNt ?_ | refine s_nilck ?_ | refine s_fptr0 ?_ | refine s_pure ?_ | refine s_saddB ?_)) | (with_reducible refine i_vc ?_; first | refine v_seq ?_ | refine v_ops ?_ | (refine g_cond ?_; first | refine s_cond_t ?_ | refine s_cond_f ?_) | refine v_skip ?_ | refine v_ret ?_) | (with_reducible first | refine n_then ?_ | refine r_then ?_ | refine e_then ?_) | ((with_reducible first | refine s_g_c ?_ ?_ | refine s_cond_c ?_ ?_) <;> intro hb <;> rw [hb] <;> (try simp only [decide_eq_true_eq, decide_eq_false_iff_not, beq_iff_eq, bne_iff_ne, beq_eq_false_iff_ne, bne_eq_false_iff_eq, ne_eq, Int.not_lt, Int.not_le, gt_iff_lt, ge_iff_le, Bool.not_eq_true', Bool.not_eq_false'] at hb)) | ((with_reducible first | refine s_ret ?_ | refine s_normal ?_); try simp only [x_tup0, x_tup1, x_tup2, x_tup3, x_tup4, x_tup5, and_true, true_and])))
  refine o_callc (by with_unfolding_all rfl) (MulG (hM.le k12) hv.sl (hc3.le k12) (D _) dc3 (L _) lc) ?_
  rw [V, ← hB]
  rintro _ G13 ⟨h13, w, rfl, hw⟩
  have k13 : G4.le G13 := GH.le_trans k12 h13
  have e1 : A * ((A + B) % M) % M * B % M = A * B % M * ((A + B) % M) % M := by
    rw [Nat.mod_mul_mod, Nat.mod_mul_mod, Nat.mul_right_comm]
  rw [e1] at hw
  have p13 : Nu .u64 G13 p (dg 18446744073709551616 (A * B % M)) := p10.le (GH.le_trans h11 (GH.le_trans h12 h13))
  have q13 : Nu .u64 G13 q (dg 18446744073709551616 (A * B % M)) := hq.sl.le (GH.le_trans h11 (GH.le_trans h12 h13))
  have u13 := hu.sl.le (GH.le_trans h12 h13)
  have v13 := hv.sl.le h13
  (repeat' (first | (with_reducible refine i_ops ?_; first | (refine g_mv ?_; refine s_mv ?_) | refine o_nil ?_ | (refine g_some ?_; first | refine s_g_t ?_ | refine s_g_f ?_ | refine s_g_f' ?_ | refine s_g_u ?_) | (refine g_pick ?_; first | refine s_pick_t ?_ | refine s_pick_f ?_) | (refine g_pure ?_; first | refine s_nilPf ?_ | refine s_nilPt ?_ | refine s_nilNf ?_ | refine s_nilNt ?_ | refine s_nilck ?_ | refine s_fptr0 ?_ | refine s_pure ?_ | refine s_saddB ?_) | refine o_callp (by with_unfolding_all rfl) (by first | exact same7 p q _ G13 p13 q13 | exact same7 u w _ G13 u13 hw.sl) ?_ | (refine o_callg (by with_unfolding_all rfl) (by first | exact same7 p q _ G13 p13 q13 | exact same7 u w _ G13 u13 hw.sl) ?_; intro G' hle)) | (with_reducible refine i_vc ?_; first | refine v_seq ?_ | refine v_ops ?_ | (refine g_cond ?_; first | refine s_cond_t ?_ | refine s_cond_f ?_) | refine v_skip ?_ | refine v_ret ?_) | (with_reducible first | refine n_then ?_ | refine r_then ?_ | refine e_then ?_) | ((with_reducible first | refine s_g_c ?_ ?_ | refine s_cond_c ?_ ?_) <;> intro hb <;> rw [hb] <;> (try simp only [decide_eq_true_eq, decide_eq_false_iff_not, beq_iff_eq, bne_iff_ne, beq_eq_false_iff_ne, bne_eq_false_iff_eq, ne_eq, Int.not_lt, Int.not_le, gt_iff_lt, ge_iff_le, Bool.not_eq_true', Bool.not_eq_false'] at hb)) | ((with_reducible first | refine s_ret ?_ | refine s_normal ?_); try simp only [x_tup0, x_tup1, x_tup2, x_tup3, x_tup4, x_tup5, and_true, true_and])))
  refine o_callc (by with_unfolding_all rfl) (MulG (hM.le k13) (ha3.le k13) (ha3.le k13) da3 da3 la la) ?_
  rw [← hA]
  rintro _ G14 ⟨h14, y, rfl, hy⟩
  have k14 : G4.le G14 := GH.le_trans k13 h14
  (repeat' (first | (with_reducible refine i_ops ?_; first | (refine g_mv ?_; refine s_mv ?_) | refine o_nil ?_ | (refine g_some ?_; first | refine s_g_t ?_ | refine s_g_f ?_ | refine s_g_f' ?_ | refine s_g_u ?_) | (refine g_pick ?_; first | refine s_pick_t ?_ | refine s_pick_f ?_) | (refine g_pure ?_; first | refine s_nilPf ?_ | refine s_nilPt ?_ | refine s_nilNf ?_ | refine s_nilNt ?_ | refine s_nilck ?_ | refine s_fptr0 ?_ | refine s_pure ?_ | refine s_saddB ?_)) | (with_reducible refine i_vc ?_; first | refine v_seq ?_ | refine v_ops ?_ | (refine g_cond ?_; first | refine s_cond_t ?_ | refine s_cond_f ?_) | refine v_skip ?_ | refine v_ret ?_) | (with_reducible first | refine n_then ?_ | refine r_then ?_ | refine e_then ?_) | ((with_reducible first | refine s_g_c ?_ ?_ | refine s_cond_c ?_ ?_) <;> intro hb <;> rw [hb] <;> (try simp only [decide_eq_true_eq, decide_eq_false_iff_not, beq_iff_eq, bne_iff_ne, beq_eq_false_iff_ne, bne_eq_false_iff_eq, ne_eq, Int.not_lt, Int.not_le, gt_iff_lt, ge_iff_le, Bool.not_eq_true', Bool.not_eq_false'] at hb)) | ((with_reducible first | refine s_ret ?_ | refine s_normal ?_); try simp only [x_tup0, x_tup1, x_tup2, x_tup3, x_tup4, x_tup5, and_true, true_and])))
  refine o_callc (by with_unfolding_all rfl) (AddG (hM.le k14) hy.sl (p13.le h14) (D _) (D _) (L _) (L _)) ?_
  rw [V, V]
  rintro _ G15 ⟨h15, z', rfl, hz'⟩
  have k15 : G4.le G15 := GH.le_trans k14 h15
  have e2 : (A * A % M + A * B % M) % M = A * ((A + B) % M) % M := by
    rw [← Nat.add_mod, ← Nat.mul_add, Nat.mul_mod A ((A + B) % M), Nat.mod_mod, ← Nat.mul_mod]
  rw [e2] at hz'
  have v15 := v13.le (GH.le_trans h14 h15)
  (repeat' (first | (with_reducible refine i_ops ?_; first | (refine g_mv ?_; refine s_mv ?_) | refine o_nil ?_ | (refine g_some ?_; first | refine s_g_t ?_ | refine s_g_f ?_ | refine s_g_f' ?_ | refine s_g_u ?_) | (refine g_pick ?_; first | refine s_pick_t ?_ | refine s_pick_f ?_) | (refine g_pure ?_; first | refine s_nilPf ?_ | refine s_nilPt ?_ | refine s_nilNf ?_ | refine s_nilNt ?_ | refine s_nilck ?_ | refine s_fptr0 ?_ | refine s_pure ?_ | refine s_saddB ?_) | refine o_callp (by with_unfolding_all rfl) (by first | exact same7 v z' _ G15 v15 hz'.sl) ?_ | (refine o_callg (by with_unfolding_all rfl) (by first | exact same7 v z' _ G15 v15 hz'.sl) ?_; intro G' hle)) | (with_reducible refine i_vc ?_; first | refine v_seq ?_ | refine v_ops ?_ | (refine g_cond ?_; first | refine s_cond_t ?_ | refine s_cond_f ?_) | refine v_skip ?_ | refine v_ret ?_) | (with_reducible first | refine n_then ?_ | refine r_then ?_ | refine e_then ?_) | ((with_reducible first | refine s_g_c ?_ ?_ | refine s_cond_c ?_ ?_) <;> intro hb <;> rw [hb] <;> (try simp only [decide_eq_true_eq, decide_eq_false_iff_not, beq_iff_eq, bne_iff_ne, beq_eq_false_iff_ne, bne_eq_false_iff_eq, ne_eq, Int.not_lt, Int.not_le, gt_iff_lt, ge_iff_le, Bool.not_eq_true', Bool.not_eq_false'] at hb)) | ((with_reducible first | refine s_ret ?_ | refine s_normal ?_); try simp only [x_tup0, x_tup1, x_tup2, x_tup3, x_tup4, x_tup5, and_true, true_and])))
  exact GH.le_trans hle02 k15
theorem modRing_walk {H : Type} {enc : TypeId × Value → H} {W : World} {base : Nat} {v0 v1 v2 : Value} {d0 d1 d2 : DataW H} {p0 p1 p2 : List MemPlace}
    (hv0 : Value.okWide Try.prog W .any base 23 v0) (h0 : DataW.Trod enc Try.prog W 0 (fun _ => true) true 23 v0 d0 p0)
    (hv1 : Value.okWide Try.prog W .any base 23 v1) (h1 : DataW.Trod enc Try.prog W 0 (fun _ => true) true 23 v1 d1 p1)
    (hv2 : Value.okWide Try.prog W .any base 23 v2) (h2 : DataW.Trod enc Try.prog W 0 (fun _ => true) true 23 v2 d2 p2)
    (hsz : (DataW.weightsEach Try.prog [23, 23, 23] [d0, d1, d2]).all (· ≤ reachBytes) = true) :
    HC Try.prog 3 #[v0, v1, v2] (whole W) fun v G' => v = .bool true ∧ (whole W).le G' := by
  obtain ⟨l, hl, dl, _⟩ := top_words 0 Try.underlying23 Try.underlying46 (by kernel_rfl) (by kernel_rfl) hv0 h0 hsz rfl rfl
  obtain ⟨a, ha, da, _⟩ := top_words 1 Try.underlying23 Try.underlying46 (by kernel_rfl) (by kernel_rfl) hv1 h1 hsz rfl rfl
  obtain ⟨b, hb, db, _⟩ := top_words 2 Try.underlying23 Try.underlying46 (by kernel_rfl) (by kernel_rfl) hv2 h2 hsz rfl rfl
  exact lawRing v0 v1 v2 l a b _ hl ha hb dl da db
end Go.Proofs.Ytiijcncdjjdglaa.V
