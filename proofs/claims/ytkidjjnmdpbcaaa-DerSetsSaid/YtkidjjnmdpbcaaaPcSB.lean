/- Byte strings compared. -/
import Derived.Test.YtkidjjnmdpbcaaaPcSA
import Derived.Test.YtkidjjnmdpbcaaaPcCS
import Derived.Test.YtkidjjnmdpbcaaaPcCQ
import Derived.Test.YtkidjjnmdpbcaaaPcCG
set_option linter.unusedSimpArgs false
set_option linter.unusedVariables false
namespace Go.Proofs.Ytkidjjnmdpbcaaa.V
open Go.RowKit Go.ChangeShapes Go.WideShapes
theorem getD_end {a : List UInt8} {i : Nat} (h : a.length ≤ i) : a.getD i 0 = 0 := by simp [List.getD, List.getElem?_eq_none h]
theorem eqB_of {a b : List UInt8} {n : Nat} (ha : a.length ≤ n) (hb : b.length ≤ n) (h : ∀ j, j < n → a.getD j 0 = b.getD j 0) : eqB a b := fun i => by
  by_cases e : i < n
  · exact h i e
  · rw [getD_end (by omega), getD_end (by omega)]
theorem u8_ne {x y : UInt8} (h : ¬ (x.toNat : Int) = y.toNat) : x ≠ y := fun e => h (by rw [e])
theorem ltB_at {a b : List UInt8} {i : Nat} (h : ∀ j, j < i → a.getD j 0 = b.getD j 0) (hn : a.getD i 0 ≠ b.getD i 0) : (((a.getD i 0).toNat : Int) < (b.getD i 0).toNat) ↔ ltB a b := by
  constructor
  · intro hl; exact ⟨i, h, by omega⟩
  · rintro ⟨k, k1, k2⟩
    rcases Nat.lt_trichotomy i k with e | e | e
    · exact absurd (k1 i e) hn
    · subst e; omega
    · rw [h k e] at k2; omega
theorem step_eq {a b : List UInt8} {i : Nat} (h : ∀ j, j < i → a.getD j 0 = b.getD j 0) (hn : ((a.getD i 0).toNat : Int) = (b.getD i 0).toNat) : ∀ j, j < i + 1 → a.getD j 0 = b.getD j 0 := fun j hj => by
  by_cases e : j < i
  · exact h j e
  · rw [show j = i by omega]; exact UInt8.toNat.inj (by omega)
/-- What the comparison tells. -/
def CmpR (a b : List UInt8) (G : GH) (r : Value) (G' : GH) : Prop := (∃ c : Int, r = .int .i64 c ∧ -255 ≤ c ∧ c ≤ 255 ∧ (c < 0 ↔ ltB a b)) ∧ G' = G
theorem order47 (u v : Value) (a b : List UInt8) (G : GH) (hu : By G u a) (hv : By G v b) : HC Try.prog 47 #[u, v] G (CmpR a b G) := by
  obtain ⟨ua, un, uc, rfl⟩ := hu.shape
  obtain ⟨va, vn, vc, rfl⟩ := hv.shape
  have lu := By.len_le hu
  have lv := By.len_le hv
  have eu := By.len hu
  have ev := By.len hv
  simp only [lenS] at eu ev
  obtain ⟨M, hM⟩ : ∃ M, M = max a.length b.length := ⟨_, rfl⟩
  have hM' : (if (b.length : Int) > a.length then (b.length : Int) else a.length) = (M : Int) := by split <;> omega
  have z : ∀ (l : List UInt8) (i : Nat), (l.length : Int) ≤ i → ((l.getD i 0).toNat : Int) = 0 := fun l i h => by rw [getD_end (by omega)]; rfl
  refine HC.start comp47 rfl ?_; unfold pc47
  (repeat' (first | (with_reducible refine i_ops ?_; first | (refine g_mv ?_; refine s_mv ?_) | refine o_nil ?_ | (refine g_some ?_; first | refine s_g_t ?_ | refine s_g_f ?_ | refine s_g_f' ?_ | refine s_g_u ?_) | (refine g_pick ?_; first | refine s_pick_t ?_ | refine s_pick_f ?_) | (refine g_len ?_; first | refine s_lenB ?_ | refine s_pure ?_) | (refine g_idx ?_; first | (refine s_idxOB ?_; intro p hp hpw) | (refine s_idxB ?_; intro p hp)) | (refine g_pure ?_; first | refine s_pure ?_ | refine s_saddB ?_) | (refine g_hload ?_; refine s_hloadP ?_)) | (with_reducible refine i_vc ?_; first | refine v_seq ?_ | refine v_ops ?_ | (refine g_cond ?_; first | refine s_cond_t ?_ | refine s_cond_f ?_) | refine v_block ?_ | refine v_skip ?_ | refine v_exit ?_ | refine v_ret ?_) | (with_reducible first | refine n_then ?_ | refine r_then ?_ | refine e_then ?_ | refine n_block ?_ | refine r_block ?_ | refine e_block_eq (by with_unfolding_all rfl) ?_ | refine e_block_ne (by with_unfolding_all rfl) ?_) | ((with_reducible first | refine s_g_c ?_ ?_ | refine s_cond_c ?_ ?_) <;> intro hb <;> rw [hb] <;> (try simp only [decide_eq_true_eq, decide_eq_false_iff_not, beq_iff_eq, bne_iff_ne, beq_eq_false_iff_ne, bne_eq_false_iff_eq, ne_eq, Int.not_lt, Int.not_le, gt_iff_lt, ge_iff_le, Bool.not_eq_true', Bool.not_eq_false'] at hb)) | ((with_reducible first | refine s_ret ?_ | refine s_normal ?_); try simp only [x_tup0, x_tup1, x_tup2, x_tup3, x_tup4, x_tup5, and_true, true_and])))
  rw [hM']
  refine v_loopX (α := Nat) (fun i => i ≤ M ∧ ∀ j, j < i → a.getD j 0 = b.getD j 0) (fun i => [(0, .slice ua un uc), (1, .slice va vn vc), (12, .int .i64 M), (13, .int .i64 i)]) (fun _ => []) (fun _ => G) (fun i => M - i) 0
    ⟨Nat.zero_le _, fun j hj => absurd hj (Nat.not_lt_zero _)⟩ (by refine ⟨SL.get_fn (by with_unfolding_all rfl), SL.get_fn (by with_unfolding_all rfl), SL.get_fn (by with_unfolding_all rfl), SL.get_fn (by with_unfolding_all rfl), trivial⟩) trivial rfl ?_
  rintro i s l ⟨k1, k2⟩
  dsimp only [SL.sets, AL.sets]
  have xa := lt8 (a.getD i 0)
  have xb := lt8 (b.getD i 0)
  (repeat' (first | (with_reducible refine i_ops ?_; first | (refine g_mv ?_; refine s_mv ?_) | refine o_nil ?_ | (refine g_some ?_; first | refine s_g_t ?_ | refine s_g_f ?_ | refine s_g_f' ?_ | refine s_g_u ?_) | (refine g_pick ?_; first | refine s_pick_t ?_ | refine s_pick_f ?_) | (refine g_len ?_; first | refine s_lenB ?_ | refine s_pure ?_) | (refine g_idx ?_; first | (refine s_idxOB ?_; intro p hp hpw) | (refine s_idxB ?_; intro p hp)) | (refine g_pure ?_; first | refine s_pure ?_ | refine s_saddB ?_) | (refine g_hload ?_; refine s_hloadP ?_)) | (with_reducible refine i_vc ?_; first | refine v_seq ?_ | refine v_ops ?_ | (refine g_cond ?_; first | refine s_cond_t ?_ | refine s_cond_f ?_) | refine v_block ?_ | refine v_skip ?_ | refine v_exit ?_ | refine v_ret ?_) | (with_reducible first | refine n_then ?_ | refine r_then ?_ | refine e_then ?_ | refine n_block ?_ | refine r_block ?_ | refine e_block_eq (by with_unfolding_all rfl) ?_ | refine e_block_ne (by with_unfolding_all rfl) ?_) | ((with_reducible first | refine s_g_c ?_ ?_ | refine s_cond_c ?_ ?_) <;> intro hb <;> rw [hb] <;> (try simp only [decide_eq_true_eq, decide_eq_false_iff_not, beq_iff_eq, bne_iff_ne, beq_eq_false_iff_ne, bne_eq_false_iff_eq, ne_eq, Int.not_lt, Int.not_le, gt_iff_lt, ge_iff_le, Bool.not_eq_true', Bool.not_eq_false'] at hb)) | ((with_reducible first | refine s_ret ?_ | refine s_normal ?_); try simp only [x_tup0, x_tup1, x_tup2, x_tup3, x_tup4, x_tup5, and_true, true_and])))
  · exact ⟨⟨_, rfl, by omega, by omega, by rw [← ltB_at k2 (u8_ne hb)]; omega⟩, rfl⟩
  · exact ⟨M - (i + 1), by omega, i + 1, rfl, ⟨by omega, step_eq k2 hb⟩, (by refine ⟨SL.get_fn (by with_unfolding_all rfl), SL.get_fn (by with_unfolding_all rfl), SL.get_fn (by with_unfolding_all rfl), SL.get_fn (by with_unfolding_all rfl), trivial⟩), trivial, rfl⟩
  · have e := z b i (by assumption)
    exact ⟨⟨_, rfl, by omega, by omega, by rw [← ltB_at k2 (u8_ne (by omega))]; omega⟩, rfl⟩
  · have e := z b i (by assumption)
    exact ⟨M - (i + 1), by omega, i + 1, rfl, ⟨by omega, step_eq k2 (by omega)⟩, (by refine ⟨SL.get_fn (by with_unfolding_all rfl), SL.get_fn (by with_unfolding_all rfl), SL.get_fn (by with_unfolding_all rfl), SL.get_fn (by with_unfolding_all rfl), trivial⟩), trivial, rfl⟩
  · have e := z a i (by assumption)
    exact ⟨⟨_, rfl, by omega, by omega, by rw [← ltB_at k2 (u8_ne (by omega))]; omega⟩, rfl⟩
  · have e := z a i (by assumption)
    exact ⟨M - (i + 1), by omega, i + 1, rfl, ⟨by omega, step_eq k2 (by omega)⟩, (by refine ⟨SL.get_fn (by with_unfolding_all rfl), SL.get_fn (by with_unfolding_all rfl), SL.get_fn (by with_unfolding_all rfl), SL.get_fn (by with_unfolding_all rfl), trivial⟩), trivial, rfl⟩
  · exfalso; omega
  · exact ⟨⟨0, rfl, by omega, by omega, ⟨fun h => by omega, fun h => absurd h (eqB_no (eqB_of (n := i) (by omega) (by omega) k2))⟩⟩, rfl⟩
theorem wrap46 (u v : Value) (a b : List UInt8) (G : GH) (hu : By G u a) (hv : By G v b) : HC Try.prog 46 #[u, v] G (CmpR a b G) := by
  obtain ⟨ua, un, uc, rfl⟩ := hu.shape
  obtain ⟨va, vn, vc, rfl⟩ := hv.shape
  refine HC.start comp46 rfl ?_; unfold pc46
  (repeat' (first | (with_reducible refine i_ops ?_; first | (refine g_mv ?_; refine s_mv ?_) | refine o_nil ?_ | (refine g_some ?_; first | refine s_g_t ?_ | refine s_g_f ?_ | refine s_g_f' ?_ | refine s_g_u ?_) | (refine g_pick ?_; first | refine s_pick_t ?_ | refine s_pick_f ?_) | (refine g_len ?_; first | refine s_lenB ?_ | refine s_pure ?_) | (refine g_idx ?_; first | (refine s_idxOB ?_; intro p hp hpw) | (refine s_idxB ?_; intro p hp)) | (refine g_pure ?_; first | refine s_pure ?_ | refine s_saddB ?_) | (refine g_hload ?_; refine s_hloadP ?_)) | (with_reducible refine i_vc ?_; first | refine v_seq ?_ | refine v_ops ?_ | (refine g_cond ?_; first | refine s_cond_t ?_ | refine s_cond_f ?_) | refine v_block ?_ | refine v_skip ?_ | refine v_exit ?_ | refine v_ret ?_) | (with_reducible first | refine n_then ?_ | refine r_then ?_ | refine e_then ?_ | refine n_block ?_ | refine r_block ?_ | refine e_block_eq (by with_unfolding_all rfl) ?_ | refine e_block_ne (by with_unfolding_all rfl) ?_) | ((with_reducible first | refine s_g_c ?_ ?_ | refine s_cond_c ?_ ?_) <;> intro hb <;> rw [hb] <;> (try simp only [decide_eq_true_eq, decide_eq_false_iff_not, beq_iff_eq, bne_iff_ne, beq_eq_false_iff_ne, bne_eq_false_iff_eq, ne_eq, Int.not_lt, Int.not_le, gt_iff_lt, ge_iff_le, Bool.not_eq_true', Bool.not_eq_false'] at hb)) | ((with_reducible first | refine s_ret ?_ | refine s_normal ?_); try simp only [x_tup0, x_tup1, x_tup2, x_tup3, x_tup4, x_tup5, and_true, true_and])))
  refine o_callc (by with_unfolding_all rfl) (order47 _ _ a b G hu hv) ?_
  rintro _ _ ⟨⟨c, rfl, h1, h2, h3⟩, rfl⟩
  (repeat' (first | (with_reducible refine i_ops ?_; first | (refine g_mv ?_; refine s_mv ?_) | refine o_nil ?_ | (refine g_some ?_; first | refine s_g_t ?_ | refine s_g_f ?_ | refine s_g_f' ?_ | refine s_g_u ?_) | (refine g_pick ?_; first | refine s_pick_t ?_ | refine s_pick_f ?_) | (refine g_len ?_; first | refine s_lenB ?_ | refine s_pure ?_) | (refine g_idx ?_; first | (refine s_idxOB ?_; intro p hp hpw) | (refine s_idxB ?_; intro p hp)) | (refine g_pure ?_; first | refine s_pure ?_ | refine s_saddB ?_) | (refine g_hload ?_; refine s_hloadP ?_)) | (with_reducible refine i_vc ?_; first | refine v_seq ?_ | refine v_ops ?_ | (refine g_cond ?_; first | refine s_cond_t ?_ | refine s_cond_f ?_) | refine v_block ?_ | refine v_skip ?_ | refine v_exit ?_ | refine v_ret ?_) | (with_reducible first | refine n_then ?_ | refine r_then ?_ | refine e_then ?_ | refine n_block ?_ | refine r_block ?_ | refine e_block_eq (by with_unfolding_all rfl) ?_ | refine e_block_ne (by with_unfolding_all rfl) ?_) | ((with_reducible first | refine s_g_c ?_ ?_ | refine s_cond_c ?_ ?_) <;> intro hb <;> rw [hb] <;> (try simp only [decide_eq_true_eq, decide_eq_false_iff_not, beq_iff_eq, bne_iff_ne, beq_eq_false_iff_ne, bne_eq_false_iff_eq, ne_eq, Int.not_lt, Int.not_le, gt_iff_lt, ge_iff_le, Bool.not_eq_true', Bool.not_eq_false'] at hb)) | ((with_reducible first | refine s_ret ?_ | refine s_normal ?_); try simp only [x_tup0, x_tup1, x_tup2, x_tup3, x_tup4, x_tup5, and_true, true_and])))
  exact ⟨⟨c, rfl, h1, h2, h3⟩, rfl⟩
open Classical in
noncomputable def ltb (a b : List UInt8) : Bool := decide (ltB a b)
theorem ltb_t {a b : List UInt8} (h : ltB a b) : ltb a b = true := by simp [ltb, h]
theorem ltb_f {a b : List UInt8} (h : ¬ ltB a b) : ltb a b = false := by simp [ltb, h]
theorem ltb_at {a b : List UInt8} {i : Nat} {x y : Int} (h : ∀ j, j < i → a.getD j 0 = b.getD j 0) (hx : x = (a.getD i 0).toNat) (hy : y = (b.getD i 0).toNat) (hn : x ≠ y) : Value.bool (decide (x < y)) = .bool (ltb a b) := by
  have e := ltB_at h (u8_ne (by omega))
  rw [← hx, ← hy] at e
  by_cases hl : x < y
  · rw [ltb_t (e.1 hl), decide_eq_true hl]
  · rw [ltb_f (fun h => hl (e.2 h)), decide_eq_false hl]
theorem less48 (u v : Value) (a b : List UInt8) (G : GH) (hu : By G u a) (hv : By G v b) : HC Try.prog 48 #[u, v] G fun r G' => r = .bool (ltb a b) ∧ G' = G := by
  obtain ⟨ua, un, uc, rfl⟩ := hu.shape
  obtain ⟨va, vn, vc, rfl⟩ := hv.shape
  have lu := By.len_le hu
  have lv := By.len_le hv
  have eu := By.len hu
  have ev := By.len hv
  simp only [lenS] at eu ev
  obtain ⟨M, hM⟩ : ∃ M, M = max a.length b.length := ⟨_, rfl⟩
  have z : ∀ (l : List UInt8) (i : Nat), (l.length : Int) ≤ i → ((l.getD i 0).toNat : Int) = 0 := fun l i h => by rw [getD_end (by omega)]; rfl
  refine HC.start comp48 rfl ?_; unfold pc48
  (repeat' (first | (with_reducible refine i_ops ?_; first | (refine g_mv ?_; refine s_mv ?_) | refine o_nil ?_ | (refine g_some ?_; first | refine s_g_t ?_ | refine s_g_f ?_ | refine s_g_f' ?_ | refine s_g_u ?_) | (refine g_pick ?_; first | refine s_pick_t ?_ | refine s_pick_f ?_) | (refine g_len ?_; first | refine s_lenB ?_ | refine s_pure ?_) | (refine g_idx ?_; first | (refine s_idxOB ?_; intro p hp hpw) | (refine s_idxB ?_; intro p hp)) | (refine g_pure ?_; first | refine s_pure ?_ | refine s_saddB ?_) | (refine g_hload ?_; refine s_hloadP ?_)) | (with_reducible refine i_vc ?_; first | refine v_seq ?_ | refine v_ops ?_ | (refine g_cond ?_; first | refine s_cond_t ?_ | refine s_cond_f ?_) | refine v_block ?_ | refine v_skip ?_ | refine v_exit ?_ | refine v_ret ?_) | (with_reducible first | refine n_then ?_ | refine r_then ?_ | refine e_then ?_ | refine n_block ?_ | refine r_block ?_ | refine e_block_eq (by with_unfolding_all rfl) ?_ | refine e_block_ne (by with_unfolding_all rfl) ?_) | ((with_reducible first | refine s_g_c ?_ ?_ | refine s_cond_c ?_ ?_) <;> intro hb <;> rw [hb] <;> (try simp only [decide_eq_true_eq, decide_eq_false_iff_not, beq_iff_eq, bne_iff_ne, beq_eq_false_iff_ne, bne_eq_false_iff_eq, ne_eq, Int.not_lt, Int.not_le, gt_iff_lt, ge_iff_le, Bool.not_eq_true', Bool.not_eq_false'] at hb)) | ((with_reducible first | refine s_ret ?_ | refine s_normal ?_); try simp only [x_tup0, x_tup1, x_tup2, x_tup3, x_tup4, x_tup5, and_true, true_and])))
  refine v_loopX (α := Nat) (fun i => i ≤ M ∧ ∀ j, j < i → a.getD j 0 = b.getD j 0) (fun i => [(0, .slice ua un uc), (1, .slice va vn vc), (5, .int .i64 i)]) (fun _ => []) (fun _ => G) (fun i => M - i) 0
    ⟨Nat.zero_le _, fun j hj => absurd hj (Nat.not_lt_zero _)⟩ (by refine ⟨SL.get_fn (by with_unfolding_all rfl), SL.get_fn (by with_unfolding_all rfl), SL.get_fn (by with_unfolding_all rfl), trivial⟩) trivial rfl ?_
  rintro i s l ⟨k1, k2⟩
  dsimp only [SL.sets, AL.sets]
  have xa := lt8 (a.getD i 0)
  have xb := lt8 (b.getD i 0)
  have za := z a i
  have zb := z b i
  (repeat' (first | (with_reducible refine i_ops ?_; first | (refine g_mv ?_; refine s_mv ?_) | refine o_nil ?_ | (refine g_some ?_; first | refine s_g_t ?_ | refine s_g_f ?_ | refine s_g_f' ?_ | refine s_g_u ?_) | (refine g_pick ?_; first | refine s_pick_t ?_ | refine s_pick_f ?_) | (refine g_len ?_; first | refine s_lenB ?_ | refine s_pure ?_) | (refine g_idx ?_; first | (refine s_idxOB ?_; intro p hp hpw) | (refine s_idxB ?_; intro p hp)) | (refine g_pure ?_; first | refine s_pure ?_ | refine s_saddB ?_) | (refine g_hload ?_; refine s_hloadP ?_)) | (with_reducible refine i_vc ?_; first | refine v_seq ?_ | refine v_ops ?_ | (refine g_cond ?_; first | refine s_cond_t ?_ | refine s_cond_f ?_) | refine v_block ?_ | refine v_skip ?_ | refine v_exit ?_ | refine v_ret ?_) | (with_reducible first | refine n_then ?_ | refine r_then ?_ | refine e_then ?_ | refine n_block ?_ | refine r_block ?_ | refine e_block_eq (by with_unfolding_all rfl) ?_ | refine e_block_ne (by with_unfolding_all rfl) ?_) | ((with_reducible first | refine s_g_c ?_ ?_ | refine s_cond_c ?_ ?_) <;> intro hb <;> rw [hb] <;> (try simp only [decide_eq_true_eq, decide_eq_false_iff_not, beq_iff_eq, bne_iff_ne, beq_eq_false_iff_ne, bne_eq_false_iff_eq, ne_eq, Int.not_lt, Int.not_le, gt_iff_lt, ge_iff_le, Bool.not_eq_true', Bool.not_eq_false'] at hb)) | ((with_reducible first | refine s_ret ?_ | refine s_normal ?_); try simp only [x_tup0, x_tup1, x_tup2, x_tup3, x_tup4, x_tup5, and_true, true_and])))
  all_goals first
    | (exfalso; omega)
    | exact ⟨ltb_at k2 (by omega) (by omega) (by omega), rfl⟩
    | exact ltb_at k2 (by omega) (by omega) (by omega)
    | exact ⟨M - (i + 1), by omega, i + 1, rfl, ⟨by omega, step_eq k2 (by omega)⟩, (by refine ⟨SL.get_fn (by with_unfolding_all rfl), SL.get_fn (by with_unfolding_all rfl), SL.get_fn (by with_unfolding_all rfl), trivial⟩), trivial, rfl⟩
    | exact congrArg _ (ltb_f (eqB_no (eqB_of (n := i) (by omega) (by omega) k2))).symm
end Go.Proofs.Ytkidjjnmdpbcaaa.V
