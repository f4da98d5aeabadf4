/- The document's number by its bytes. -/
import Derived.Test.YtfacphjjkanajaaDoorBOC
set_option linter.unusedSimpArgs false
set_option linter.unusedVariables false
-- @nums
-- @push
-- @extra s_nconv s_ncmul s_nadd s_naddc
namespace Go.Proofs.YtfacphjjkanajaaDoor.V
open Go.RowKit Go.ChangeShapes Go.WideShapes
theorem nb_top {bs : List UInt8} {f p : Nat} (hf : f ≤ bs.length) (hp : p < bs.length - f) : (nb (bs.drop f)).getD p 0 = (bs.getD (bs.length - 1 - p) 0).toNat := by
  have h := nb_at (bs := bs.drop f) (i := bs.length - f - 1 - p) (by rw [List.length_drop]; omega)
  rw [nb_len, List.length_drop, show bs.length - f - 1 - (bs.length - f - 1 - p) = p by omega] at h
  rw [← h, List.getD_eq_getElem?_getD, List.getD_eq_getElem?_getD, List.getElem?_drop, show f + (bs.length - f - 1 - p) = bs.length - 1 - p by omega]
def FromBR (G : GH) (bs : List UInt8) (v : Value) (G' : GH) : Prop := G.le G' ∧ ((512 < (strip bs).length ∧ v = .tuple #[.slice none 0 0, .int .i64 3]) ∨
  ((strip bs).length ≤ 512 ∧ ∃ w, v = .tuple #[w, .int .i64 0] ∧ Own 1 G G' w ((dg 65536 (num bs)).map (iv .i64))))
theorem pair_step {ds o : List Nat} {t : Nat} (h : val 65536 o = val 256 (ds.take (2 * t))) (ho : o.length = t) : val 65536 (o ++ [ds.getD (2 * t) 0 + 256 * ds.getD (2 * t + 1) 0]) = val 256 (ds.take (2 * (t + 1))) := by
  rw [show 2 * (t + 1) = 2 * t + 1 + 1 by omega, val_take_succ, val_take_succ, val_push, ho, ← h, Nat.add_assoc]
  have e : (65536 : Nat) ^ t = 256 ^ (2 * t) := by rw [Nat.pow_mul]
  rw [e, Nat.mul_add, Nat.pow_succ, Nat.mul_assoc]
theorem fromT (u : Value) (bs : List UInt8) (f : Nat) (G : GH) (h : By G u bs) (hf : f ≤ bs.length) (e : strip bs = bs.drop f) (sl : Nat → Value) (ll : Nat → Array Value) :
    vc Tryd.prog E6 (sndN 3 pc6) (endQ [.slot 2, .slot 3] fun v G' => FromBR G bs v G') (S (SL.sets sl [(0, u), (4, .int .i64 f)]) (AL.sets ll []) G) := by
  have hl := By.len_le h
  have hn := num_strip bs
  unfold FromBR
  unfold pc6
  simp only [sndN, SL.sets, AL.sets]
  rw [e] at hn ⊢
  have hnd := nb_dl (bs.drop f)
  have hnl := nb_len (bs.drop f)
  rw [List.length_drop] at hnl
  have htop := fun p => nb_top (bs := bs) (f := f) (p := p) hf
  unfold num at hn
  rw [List.length_drop]
  (repeat' (first | (with_reducible refine i_ops ?_; first | (refine g_mv ?_; refine s_mv ?_) | refine o_nil ?_ | (refine g_some ?_; first | refine s_g_t ?_ | refine s_g_f ?_ | refine s_g_f' ?_ | refine s_g_u ?_) | (refine g_pick ?_; first | refine s_pick_t ?_ | refine s_pick_f ?_) | (refine g_len ?_; first | refine s_lenN ?_ | refine s_lenB ?_ | refine s_pure ?_) | (refine g_idx ?_; first | (refine s_idxN ?_; intro p hp; try simp only [Int.toNat_natCast] at hp) | (refine s_idxOB ?_; intro p hp hpw) | (refine s_idxB ?_; intro p hp)) | (refine g_pure ?_; first | refine s_nconv ?_ | refine s_ncmul ?_ | refine s_nadd ?_ | refine s_naddc ?_ | refine s_pure ?_ | refine s_saddB ?_) | (refine g_hload ?_; refine s_hloadP ?_) | (refine g_push ?_; (refine s_pushN ?_; intro w u' G' hle ho hkp))) | (with_reducible refine i_vc ?_; first | refine v_seq ?_ | refine v_ops ?_ | (refine g_cond ?_; first | refine s_cond_t ?_ | refine s_cond_f ?_) | refine v_block ?_ | refine v_skip ?_ | refine v_exit ?_ | refine v_ret ?_) | (with_reducible first | refine n_then ?_ | refine r_then ?_ | refine e_then ?_ | refine n_block ?_ | refine r_block ?_ | refine e_block_eq (by with_unfolding_all rfl) ?_ | refine e_block_ne (by with_unfolding_all rfl) ?_) | ((with_reducible first | refine s_g_c ?_ ?_ | refine s_cond_c ?_ ?_) <;> intro hb <;> rw [hb] <;> (try simp only [decide_eq_true_eq, decide_eq_false_iff_not, beq_iff_eq, bne_iff_ne, beq_eq_false_iff_ne, bne_eq_false_iff_eq, ne_eq, Int.not_lt, Int.not_le, gt_iff_lt, ge_iff_le, Bool.not_eq_true', Bool.not_eq_false'] at hb)) | ((with_reducible first | refine s_ret ?_ | refine s_normal ?_); try simp only [x_tup0, x_tup1, x_tup2, x_tup3, x_tup4, x_tup5, and_true, true_and])))
  · exact ⟨GH.le_refl _, .inl (by omega)⟩
  refine v_loopX (α := Nat × List Nat × Value × GH) (fun q => 2 * q.1 ≤ bs.length - f + 1 ∧ q.2.1.length = q.1 ∧ Dl 65536 q.2.1 ∧ val 65536 q.2.1 = val 256 ((nb (bs.drop f)).take (2 * q.1)) ∧ G.le q.2.2.2 ∧ Own 1 G q.2.2.2 q.2.2.1 (q.2.1.map (iv .i64))) (fun q => [(0, u), (4, .int .i64 f), (5, q.2.2.1), (6, .int .i64 ((bs.length : Int) - 1 - 2 * q.1))]) (fun _ => []) (fun q => q.2.2.2) (fun q => bs.length + 1 - 2 * q.1) (0, [], .slice none 0 0, G)
    ⟨Nat.zero_le _, rfl, fun x hx => by simp at hx, by simp [val], GH.le_refl _, .inl ⟨rfl, rfl⟩⟩ ⟨SL.get_fn (by with_unfolding_all rfl), SL.get_fn (by with_unfolding_all rfl), SL.get_fn (by with_unfolding_all rfl), by dsimp only; rw [show ((bs.length : Int) - 1 - 2 * ((0 : Nat) : Int)) = bs.length - 1 by omega]; exact SL.get_fn (by with_unfolding_all rfl), trivial⟩ trivial rfl ?_
  rintro ⟨t, o, w, H⟩ s l ⟨k1, k2, k3, k4, k5, k6⟩
  dsimp only at k1 k2 k3 k4 k5 k6
  dsimp only [SL.sets, AL.sets]
  have hH := Sl.le h k5
  have d0 := hnd.getD (by decide) (2 * t)
  have d1 := hnd.getD (by decide) (2 * t + 1)
  have c0 := (bs.getD ((bs.length : Int) - 1 - 2 * t).toNat 0).toNat_lt
  have c1 := (bs.getD ((bs.length : Int) - 1 - 2 * t - 1).toNat 0).toNat_lt
  have e1 : ((bs.length : Int) - 1 - 2 * t).toNat = bs.length - 1 - 2 * t := by omega
  have e2 : ((bs.length : Int) - 1 - 2 * t - 1).toNat = bs.length - 1 - (2 * t + 1) := by omega
  have e3 : ((bs.length : Int) - 1 - 2 * ((t + 1 : Nat) : Int)) = (bs.length : Int) - 1 - 2 * t - 2 := by omega
  have hps := pair_step k4 k2
  (repeat' (first | (with_reducible refine i_ops ?_; first | (refine g_mv ?_; refine s_mv ?_) | refine o_nil ?_ | (refine g_some ?_; first | refine s_g_t ?_ | refine s_g_f ?_ | refine s_g_f' ?_ | refine s_g_u ?_) | (refine g_pick ?_; first | refine s_pick_t ?_ | refine s_pick_f ?_) | (refine g_len ?_; first | refine s_lenN ?_ | refine s_lenB ?_ | refine s_pure ?_) | (refine g_idx ?_; first | (refine s_idxN ?_; intro p hp; try simp only [Int.toNat_natCast] at hp) | (refine s_idxOB ?_; intro p hp hpw) | (refine s_idxB ?_; intro p hp)) | (refine g_pure ?_; first | refine s_nconv ?_ | refine s_ncmul ?_ | refine s_nadd ?_ | refine s_naddc ?_ | refine s_pure ?_ | refine s_saddB ?_) | (refine g_hload ?_; refine s_hloadP ?_) | (refine g_push ?_; (refine s_pushN ?_; intro w u' G' hle ho hkp))) | (with_reducible refine i_vc ?_; first | refine v_seq ?_ | refine v_ops ?_ | (refine g_cond ?_; first | refine s_cond_t ?_ | refine s_cond_f ?_) | refine v_block ?_ | refine v_skip ?_ | refine v_exit ?_ | refine v_ret ?_) | (with_reducible first | refine n_then ?_ | refine r_then ?_ | refine e_then ?_ | refine n_block ?_ | refine r_block ?_ | refine e_block_eq (by with_unfolding_all rfl) ?_ | refine e_block_ne (by with_unfolding_all rfl) ?_) | ((with_reducible first | refine s_g_c ?_ ?_ | refine s_cond_c ?_ ?_) <;> intro hb <;> rw [hb] <;> (try simp only [decide_eq_true_eq, decide_eq_false_iff_not, beq_iff_eq, bne_iff_ne, beq_eq_false_iff_ne, bne_eq_false_iff_eq, ne_eq, Int.not_lt, Int.not_le, gt_iff_lt, ge_iff_le, Bool.not_eq_true', Bool.not_eq_false'] at hb)) | ((with_reducible first | refine s_ret ?_ | refine s_normal ?_); try simp only [x_tup0, x_tup1, x_tup2, x_tup3, x_tup4, x_tup5, and_true, true_and])))
  · rw [e1, e2, ← htop _ (by omega), ← htop _ (by omega)] at ho
    refine ⟨bs.length + 1 - 2 * (t + 1), by omega, (t + 1, _, u', G'), rfl, ⟨by dsimp only; omega, by simp [k2], k3.push (by omega), hps, hle, ho⟩, ?_, trivial, rfl⟩
    dsimp only
    rw [e3]
    exact (by refine ⟨SL.get_fn (by with_unfolding_all rfl), SL.get_fn (by with_unfolding_all rfl), SL.get_fn (by with_unfolding_all rfl), SL.get_fn (by with_unfolding_all rfl), trivial⟩)
  · rw [e1, ← htop _ (by omega)] at ho
    rw [getD_ge (nb (bs.drop f)) (i := 2 * t + 1) (by omega), Nat.mul_zero, Nat.add_zero] at hps
    refine ⟨bs.length + 1 - 2 * (t + 1), by omega, (t + 1, _, u', G'), rfl, ⟨by dsimp only; omega, by simp [k2], k3.push (by omega), hps, hle, ho⟩, ?_, trivial, rfl⟩
    dsimp only
    rw [e3]
    exact (by refine ⟨SL.get_fn (by with_unfolding_all rfl), SL.get_fn (by with_unfolding_all rfl), SL.get_fn (by with_unfolding_all rfl), SL.get_fn (by with_unfolding_all rfl), trivial⟩)
  · rw [List.take_of_length_le (by omega)] at k4
    refine o_callc (by with_unfolding_all rfl) (bare w o H k6.sl k3 (by omega)) ?_
    rintro v H2 ⟨q1, q2⟩
    rw [k4, hn] at q2
    (repeat' (first | (with_reducible refine i_ops ?_; first | (refine g_mv ?_; refine s_mv ?_) | refine o_nil ?_ | (refine g_some ?_; first | refine s_g_t ?_ | refine s_g_f ?_ | refine s_g_f' ?_ | refine s_g_u ?_) | (refine g_pick ?_; first | refine s_pick_t ?_ | refine s_pick_f ?_) | (refine g_len ?_; first | refine s_lenN ?_ | refine s_lenB ?_ | refine s_pure ?_) | (refine g_idx ?_; first | (refine s_idxN ?_; intro p hp; try simp only [Int.toNat_natCast] at hp) | (refine s_idxOB ?_; intro p hp hpw) | (refine s_idxB ?_; intro p hp)) | (refine g_pure ?_; first | refine s_nconv ?_ | refine s_ncmul ?_ | refine s_nadd ?_ | refine s_naddc ?_ | refine s_pure ?_ | refine s_saddB ?_) | (refine g_hload ?_; refine s_hloadP ?_) | (refine g_push ?_; (refine s_pushN ?_; intro w u' G' hle ho hkp))) | (with_reducible refine i_vc ?_; first | refine v_seq ?_ | refine v_ops ?_ | (refine g_cond ?_; first | refine s_cond_t ?_ | refine s_cond_f ?_) | refine v_block ?_ | refine v_skip ?_ | refine v_exit ?_ | refine v_ret ?_) | (with_reducible first | refine n_then ?_ | refine r_then ?_ | refine e_then ?_ | refine n_block ?_ | refine r_block ?_ | refine e_block_eq (by with_unfolding_all rfl) ?_ | refine e_block_ne (by with_unfolding_all rfl) ?_) | ((with_reducible first | refine s_g_c ?_ ?_ | refine s_cond_c ?_ ?_) <;> intro hb <;> rw [hb] <;> (try simp only [decide_eq_true_eq, decide_eq_false_iff_not, beq_iff_eq, bne_iff_ne, beq_eq_false_iff_ne, bne_eq_false_iff_eq, ne_eq, Int.not_lt, Int.not_le, gt_iff_lt, ge_iff_le, Bool.not_eq_true', Bool.not_eq_false'] at hb)) | ((with_reducible first | refine s_ret ?_ | refine s_normal ?_); try simp only [x_tup0, x_tup1, x_tup2, x_tup3, x_tup4, x_tup5, and_true, true_and])))
    exact ⟨GH.le_trans k5 q1, .inr ⟨by omega, v, rfl, q2.base k5⟩⟩
theorem FromBytes (u : Value) (bs : List UInt8) (G : GH) (h : By G u bs) : HC Tryd.prog 6 #[u] G fun v G' => FromBR G bs v G' := by
  have hl := By.len_le h
  have hT := fromT u bs
  unfold pc6 at hT
  simp only [sndN, SL.sets, AL.sets] at hT
  refine HC.start comp6 rfl ?_; unfold pc6
  (repeat' (first | (with_reducible refine i_ops ?_; first | (refine g_mv ?_; refine s_mv ?_) | refine o_nil ?_ | (refine g_some ?_; first | refine s_g_t ?_ | refine s_g_f ?_ | refine s_g_f' ?_ | refine s_g_u ?_) | (refine g_pick ?_; first | refine s_pick_t ?_ | refine s_pick_f ?_) | (refine g_len ?_; first | refine s_lenN ?_ | refine s_lenB ?_ | refine s_pure ?_) | (refine g_idx ?_; first | (refine s_idxN ?_; intro p hp; try simp only [Int.toNat_natCast] at hp) | (refine s_idxOB ?_; intro p hp hpw) | (refine s_idxB ?_; intro p hp)) | (refine g_pure ?_; first | refine s_nconv ?_ | refine s_ncmul ?_ | refine s_nadd ?_ | refine s_naddc ?_ | refine s_pure ?_ | refine s_saddB ?_) | (refine g_hload ?_; refine s_hloadP ?_) | (refine g_push ?_; (refine s_pushN ?_; intro w u' G' hle ho hkp))) | (with_reducible refine i_vc ?_; first | refine v_seq ?_ | refine v_ops ?_ | (refine g_cond ?_; first | refine s_cond_t ?_ | refine s_cond_f ?_) | refine v_block ?_ | refine v_skip ?_ | refine v_exit ?_ | refine v_ret ?_) | (with_reducible first | refine n_then ?_ | refine r_then ?_ | refine e_then ?_ | refine n_block ?_ | refine r_block ?_ | refine e_block_eq (by with_unfolding_all rfl) ?_ | refine e_block_ne (by with_unfolding_all rfl) ?_) | ((with_reducible first | refine s_g_c ?_ ?_ | refine s_cond_c ?_ ?_) <;> intro hb <;> rw [hb] <;> (try simp only [decide_eq_true_eq, decide_eq_false_iff_not, beq_iff_eq, bne_iff_ne, beq_eq_false_iff_ne, bne_eq_false_iff_eq, ne_eq, Int.not_lt, Int.not_le, gt_iff_lt, ge_iff_le, Bool.not_eq_true', Bool.not_eq_false'] at hb)) | ((with_reducible first | refine s_ret ?_ | refine s_normal ?_); try simp only [x_tup0, x_tup1, x_tup2, x_tup3, x_tup4, x_tup5, and_true, true_and])))
  generalize hQ : vc Tryd.prog E6 _ (endQ _ _) = Q'
  refine v_loopX (α := Nat) (fun f => f ≤ bs.length ∧ strip (bs.drop f) = strip bs) (fun f => [(0, u), (4, .int .i64 f)]) (fun _ => []) (fun _ => G) (fun f => bs.length - f) 0
    ⟨Nat.zero_le _, by rw [List.drop_zero]⟩ (by refine ⟨SL.get_fn (by with_unfolding_all rfl), SL.get_fn (by with_unfolding_all rfl), trivial⟩) trivial rfl ?_
  rintro f s ll ⟨k1, k2⟩
  dsimp only [SL.sets, AL.sets]
  have hb9 := (bs.getD (f : Int).toNat 0).toNat_lt
  have hgd : (bs.drop f).getD 0 0 = bs.getD f 0 := by rw [List.getD_eq_getElem?_getD, List.getD_eq_getElem?_getD, List.getElem?_drop, Nat.add_zero]
  (repeat' (first | (with_reducible refine i_ops ?_; first | (refine g_mv ?_; refine s_mv ?_) | refine o_nil ?_ | (refine g_some ?_; first | refine s_g_t ?_ | refine s_g_f ?_ | refine s_g_f' ?_ | refine s_g_u ?_) | (refine g_pick ?_; first | refine s_pick_t ?_ | refine s_pick_f ?_) | (refine g_len ?_; first | refine s_lenN ?_ | refine s_lenB ?_ | refine s_pure ?_) | (refine g_idx ?_; first | (refine s_idxN ?_; intro p hp; try simp only [Int.toNat_natCast] at hp) | (refine s_idxOB ?_; intro p hp hpw) | (refine s_idxB ?_; intro p hp)) | (refine g_pure ?_; first | refine s_nconv ?_ | refine s_ncmul ?_ | refine s_nadd ?_ | refine s_naddc ?_ | refine s_pure ?_ | refine s_saddB ?_) | (refine g_hload ?_; refine s_hloadP ?_) | (refine g_push ?_; (refine s_pushN ?_; intro w u' G' hle ho hkp))) | (with_reducible refine i_vc ?_; first | refine v_seq ?_ | refine v_ops ?_ | (refine g_cond ?_; first | refine s_cond_t ?_ | refine s_cond_f ?_) | refine v_block ?_ | refine v_skip ?_ | refine v_exit ?_ | refine v_ret ?_) | (with_reducible first | refine n_then ?_ | refine r_then ?_ | refine e_then ?_ | refine n_block ?_ | refine r_block ?_ | refine e_block_eq (by with_unfolding_all rfl) ?_ | refine e_block_ne (by with_unfolding_all rfl) ?_) | ((with_reducible first | refine s_g_c ?_ ?_ | refine s_cond_c ?_ ?_) <;> intro hb <;> rw [hb] <;> (try simp only [decide_eq_true_eq, decide_eq_false_iff_not, beq_iff_eq, bne_iff_ne, beq_eq_false_iff_ne, bne_eq_false_iff_eq, ne_eq, Int.not_lt, Int.not_le, gt_iff_lt, ge_iff_le, Bool.not_eq_true', Bool.not_eq_false'] at hb)) | ((with_reducible first | refine s_ret ?_ | refine s_normal ?_); try simp only [x_tup0, x_tup1, x_tup2, x_tup3, x_tup4, x_tup5, and_true, true_and])))
  · refine ⟨bs.length - (f + 1), by omega, f + 1, rfl, ⟨by omega, ?_⟩, (by refine ⟨SL.get_fn (by with_unfolding_all rfl), SL.get_fn (by with_unfolding_all rfl), trivial⟩), trivial, rfl⟩
    have := strip_drop (bs := bs.drop f) (by rw [List.length_drop]; omega) (by rw [hgd]; simpa using hb)
    rw [List.drop_drop] at this
    exact this.trans k2
  all_goals
    have e : strip bs = bs.drop f := by
      rw [← k2]
      exact strip_neg (by first | (left; rw [List.length_drop]; omega) | (right; rw [hgd]; simpa using hb))
    subst hQ
    refine v_trim [(0, u), (4, .int .i64 f)] [] (by refine ⟨SL.get_fn (by with_unfolding_all rfl), SL.get_fn (by with_unfolding_all rfl), trivial⟩) trivial ?_
    intro s l
    exact hT f G h k1 e s l
end Go.Proofs.YtfacphjjkanajaaDoor.V
