/- A set in its order. -/
import Derived.Test.YtkidjjnmdpbcaaaPcSG
import Derived.Test.YtkidjjnmdpbcaaaPcZB
import Derived.Test.YtkidjjnmdpbcaaaPcCF
set_option linter.unusedSimpArgs false
set_option linter.unusedVariables false
set_option linter.unnecessarySimpa false
namespace Go.Proofs.Ytkidjjnmdpbcaaa.V
open Go.RowKit Go.ChangeShapes Go.WideShapes
/-- Byte strings in memory, each one's own. -/
def RowV (G0 G : GH) (str : Nat → List UInt8) (k : Nat) (xs : List Value) : Prop := ∃ val : Nat → Value, xs = (List.range k).map val ∧ (∀ i, i < k → Own 1 G0 G (val i) ((str i).map bv)) ∧ ∀ i j, i < j → j < k → ∀ c, blkS (val j) = some c → blkS (val i) ≠ some c
theorem RowV.le {G0 G G' : GH} {str : Nat → List UInt8} {k : Nat} {xs : List Value} (h : RowV G0 G str k xs) (hl : G.le G') : RowV G0 G' str k xs :=
  let ⟨wf, h1, h2, h3⟩ := h; ⟨wf, h1, fun i hi => (h2 i hi).le hl, h3⟩
theorem RowV.nil (G0 G : GH) (str : Nat → List UInt8) : RowV G0 G str 0 [] := ⟨fun _ => .slice none 0 0, rfl, fun i hi => absurd hi (Nat.not_lt_zero _), fun i j _ hj => absurd hj (Nat.not_lt_zero _)⟩
theorem RowV.snoc {G0 G G' : GH} {str : Nat → List UInt8} {k : Nat} {xs : List Value} {w : Value} (h : RowV G0 G str k xs) (hl : G.le G') (hw : Own 1 G0 G' w ((str k).map bv)) (hn : ∀ c, blkS w = some c → G c = none) : RowV G0 G' str (k + 1) (xs ++ [w]) := by
  obtain ⟨wf, h1, h2, h3⟩ := h
  refine ⟨fun i => if i < k then wf i else w, ?_, fun i hi => ?_, fun i j hij hj c hc => ?_⟩
  · rw [List.range_succ, List.map_append, h1]
    congr 1
    · refine List.map_congr_left fun i hi => ?_
      rw [List.mem_range] at hi; simp [hi]
    · simp
  · by_cases e : i < k
    · simp only [e, if_true]; exact (h2 i e).le hl
    · obtain rfl : i = k := by omega
      simp only [e, if_false]; exact hw
  · have hi : i < k := by omega
    simp only [hi, if_true]
    by_cases e : j < k
    · simp only [e, if_true] at hc
      exact h3 i j hij e c hc
    · simp only [e, if_false] at hc
      intro hi2
      obtain ⟨o, ho, _⟩ := (h2 i hi).at_ hi2
      rw [hn c hc] at ho; cases ho
abbrev strOf (ps : List (List UInt8)) (i : Nat) : List UInt8 := ps.getD i []
/-- What Set makes. -/
def SetR (ps : List (List UInt8)) (G : GH) (v : Value) (G' : GH) : Prop := ∃ (val : Nat → Value) (M : List Nat) (B : GH), M.Perm (List.range ps.length) ∧ M.Pairwise (ltI (strOf ps)) ∧ G.le B ∧ B.le G' ∧ (∀ c, blkS v = some c → B c = none) ∧ Own 1 B G' v (M.map val) ∧
  (∀ i, i < ps.length → Own 1 G B (val i) ((strOf ps i).map bv)) ∧ ∀ i j, i < j → j < ps.length → ∀ c, blkS (val j) = some c → blkS (val i) ≠ some c
theorem strOf_lt {ps : List (List UInt8)} {i : Nat} (h : i < ps.length) : strOf ps i = ps[i] := by simp [strOf, h]
theorem set32 (u : Value) (us : List Value) (ps : List (List UInt8)) (G : GH) (hp : Parts G u us ps) (hpl : ps.length * 24 ≤ 140737488351232) (hps : ∀ i (h : i < ps.length), ps[i].length ≤ 140737488351232) : HC Try.prog 32 #[u] G (SetR ps G) := by
  have hu := hp.1
  have hn := hp.2.1
  have hlen : lenS u = ps.length := by have := hu.len; omega
  obtain ⟨ua, un, uc, rfl⟩ := hu.shape
  obtain rfl : un = ps.length := hlen
  refine HC.start comp32 rfl ?_; unfold pc32
  (repeat' (first | (with_reducible refine i_ops ?_; first | (refine g_mv ?_; refine s_mv ?_) | refine o_nil ?_ | (refine g_len ?_; first | refine s_lenB ?_ | refine s_pure ?_) | (refine g_idx ?_; first | (refine s_idxOB ?_; intro p hp hpw) | (refine s_idxB ?_; intro p hp)) | (refine g_pure ?_; first | refine s_pure ?_ | refine s_saddB ?_) | (refine g_hload ?_; refine s_hloadP ?_)) | (with_reducible refine i_vc ?_; first | refine v_seq ?_ | refine v_ops ?_ | (refine g_cond ?_; first | refine s_cond_t ?_ | refine s_cond_f ?_) | refine v_block ?_ | refine v_skip ?_ | refine v_exit ?_ | refine v_ret ?_) | (with_reducible first | refine n_then ?_ | refine r_then ?_ | refine e_then ?_ | refine n_block ?_ | refine r_block ?_ | refine e_block_eq (by with_unfolding_all rfl) ?_ | refine e_block_ne (by with_unfolding_all rfl) ?_) | ((with_reducible first | refine s_cond_c ?_ ?_) <;> intro hb <;> rw [hb] <;> (try simp only [decide_eq_true_eq, decide_eq_false_iff_not, beq_iff_eq, bne_iff_ne, beq_eq_false_iff_ne, bne_eq_false_iff_eq, ne_eq, Int.not_lt, Int.not_le, gt_iff_lt, ge_iff_le, Bool.not_eq_true', Bool.not_eq_false'] at hb)) | ((with_reducible first | refine s_ret ?_ | refine s_normal ?_); try simp only [x_tup0, x_tup1, x_tup2, x_tup3, x_tup4, x_tup5, and_true, true_and])))
  refine v_loopX (α := Nat × Value × List Value × GH × GH) (fun q => q.1 ≤ ps.length ∧ Two 1 1 G q.2.2.2.1 q.2.2.2.2 q.2.1 (.slice none 0 0) q.2.2.1 [] ∧ RowV G q.2.2.2.2 (strOf ps) q.1 q.2.2.1) (fun q => [(6, .slice ua ps.length uc), (7, .int .i64 ps.length), (3, q.2.1), (8, .int .i64 q.1)]) (fun _ => []) (fun q => q.2.2.2.1) (fun q => ps.length - q.1) (0, .slice none 0 0, [], G, G)
    ⟨Nat.zero_le _, Two.nil 1 1 G, RowV.nil _ _ _⟩ (by refine ⟨SL.get_fn (by with_unfolding_all rfl), SL.get_fn (by with_unfolding_all rfl), SL.get_fn (by with_unfolding_all rfl), SL.get_fn (by with_unfolding_all rfl), trivial⟩) trivial rfl ?_
  rintro ⟨k, l, xs, H, B⟩ s ll ⟨k1, k2, k3⟩
  dsimp only at k1 k2 k3
  dsimp only [SL.sets, AL.sets]
  have hBH : B.le H := by rw [k2.1]; exact GH.le_trans (offb_le _ _) (offb_le _ _)
  have hGH : G.le H := GH.le_trans k2.2.1 hBH
  have ol := k2.2.2.1
  have lenl : lenS l = k := by have := ol.sl.len; obtain ⟨_, e, _⟩ := k3; rw [e] at this; simp at this; omega
  (repeat' (first | (with_reducible refine i_ops ?_; first | (refine g_mv ?_; refine s_mv ?_) | refine o_nil ?_ | (refine g_len ?_; first | refine s_lenB ?_ | refine s_pure ?_) | (refine g_idx ?_; first | (refine s_idxOB ?_; intro p hp hpw) | (refine s_idxB ?_; intro p hp)) | (refine g_pure ?_; first | refine s_pure ?_ | refine s_saddB ?_) | (refine g_hload ?_; refine s_hloadP ?_)) | (with_reducible refine i_vc ?_; first | refine v_seq ?_ | refine v_ops ?_ | (refine g_cond ?_; first | refine s_cond_t ?_ | refine s_cond_f ?_) | refine v_block ?_ | refine v_skip ?_ | refine v_exit ?_ | refine v_ret ?_) | (with_reducible first | refine n_then ?_ | refine r_then ?_ | refine e_then ?_ | refine n_block ?_ | refine r_block ?_ | refine e_block_eq (by with_unfolding_all rfl) ?_ | refine e_block_ne (by with_unfolding_all rfl) ?_) | ((with_reducible first | refine s_cond_c ?_ ?_) <;> intro hb <;> rw [hb] <;> (try simp only [decide_eq_true_eq, decide_eq_false_iff_not, beq_iff_eq, bne_iff_ne, beq_eq_false_iff_ne, bne_eq_false_iff_eq, ne_eq, Int.not_lt, Int.not_le, gt_iff_lt, ge_iff_le, Bool.not_eq_true', Bool.not_eq_false'] at hb)) | ((with_reducible first | refine s_ret ?_ | refine s_normal ?_); try simp only [x_tup0, x_tup1, x_tup2, x_tup3, x_tup4, x_tup5, and_true, true_and])))
  · have hk : k < ps.length := by omega
    obtain ⟨w1, ew, hw1⟩ := hp.2.2 k hk
    have hpk := hps k hk
    refine o_idxS (by with_unfolding_all rfl) (hu.le hGH) (by with_unfolding_all rfl) (by omega) (v := w1) (by simpa using ew) ?_
    intro p hp'
    (repeat' (first | (with_reducible refine i_ops ?_; first | (refine g_mv ?_; refine s_mv ?_) | refine o_nil ?_ | (refine g_len ?_; first | refine s_lenB ?_ | refine s_pure ?_) | (refine g_idx ?_; first | (refine s_idxOB ?_; intro p hp hpw) | (refine s_idxB ?_; intro p hp)) | (refine g_pure ?_; first | refine s_pure ?_ | refine s_saddB ?_) | (refine g_hload ?_; refine s_hloadP ?_)) | (with_reducible refine i_vc ?_; first | refine v_seq ?_ | refine v_ops ?_ | (refine g_cond ?_; first | refine s_cond_t ?_ | refine s_cond_f ?_) | refine v_block ?_ | refine v_skip ?_ | refine v_exit ?_ | refine v_ret ?_) | (with_reducible first | refine n_then ?_ | refine r_then ?_ | refine e_then ?_ | refine n_block ?_ | refine r_block ?_ | refine e_block_eq (by with_unfolding_all rfl) ?_ | refine e_block_ne (by with_unfolding_all rfl) ?_) | ((with_reducible first | refine s_cond_c ?_ ?_) <;> intro hb <;> rw [hb] <;> (try simp only [decide_eq_true_eq, decide_eq_false_iff_not, beq_iff_eq, bne_iff_ne, beq_eq_false_iff_ne, bne_eq_false_iff_eq, ne_eq, Int.not_lt, Int.not_le, gt_iff_lt, ge_iff_le, Bool.not_eq_true', Bool.not_eq_false'] at hb)) | ((with_reducible first | refine s_ret ?_ | refine s_normal ?_); try simp only [x_tup0, x_tup1, x_tup2, x_tup3, x_tup4, x_tup5, and_true, true_and])))
    refine o_callc (by with_unfolding_all rfl) (clone w1 ps[k] H (Sl.le hw1 hGH) (by omega)) ?_
    rintro w H1 ⟨hle, hw⟩
    obtain ⟨wa, wn, wc, rfl⟩ := hw.sl.shape
    obtain ⟨m2, mB⟩ := k2.le hle
    have hwB := (k2.newO hle hw).base hGH
    have hwn : ∀ c, blkS (.slice wa wn wc) = some c → B c = none := fun c hc => le_none hBH (hw.at_ hc).choose_spec.2
    (repeat' (first | (with_reducible refine i_ops ?_; first | (refine g_mv ?_; refine s_mv ?_) | refine o_nil ?_ | (refine g_len ?_; first | refine s_lenB ?_ | refine s_pure ?_) | (refine g_idx ?_; first | (refine s_idxOB ?_; intro p hp hpw) | (refine s_idxB ?_; intro p hp)) | (refine g_pure ?_; first | refine s_pure ?_ | refine s_saddB ?_) | (refine g_hload ?_; refine s_hloadP ?_)) | (with_reducible refine i_vc ?_; first | refine v_seq ?_ | refine v_ops ?_ | (refine g_cond ?_; first | refine s_cond_t ?_ | refine s_cond_f ?_) | refine v_block ?_ | refine v_skip ?_ | refine v_exit ?_ | refine v_ret ?_) | (with_reducible first | refine n_then ?_ | refine r_then ?_ | refine e_then ?_ | refine n_block ?_ | refine r_block ?_ | refine e_block_eq (by with_unfolding_all rfl) ?_ | refine e_block_ne (by with_unfolding_all rfl) ?_) | ((with_reducible first | refine s_cond_c ?_ ?_) <;> intro hb <;> rw [hb] <;> (try simp only [decide_eq_true_eq, decide_eq_false_iff_not, beq_iff_eq, bne_iff_ne, beq_eq_false_iff_ne, bne_eq_false_iff_eq, ne_eq, Int.not_lt, Int.not_le, gt_iff_lt, ge_iff_le, Bool.not_eq_true', Bool.not_eq_false'] at hb)) | ((with_reducible first | refine s_ret ?_ | refine s_normal ?_); try simp only [x_tup0, x_tup1, x_tup2, x_tup3, x_tup4, x_tup5, and_true, true_and])))
    refine o_bsliceO (vs := [.slice wa wn wc]) (by with_unfolding_all rfl) rfl rfl rfl rfl rfl ?_
    intro v2 H2 g2 o2 n2
    obtain ⟨r2, rB⟩ := m2.le g2
    (repeat' (first | (with_reducible refine i_ops ?_; first | (refine g_mv ?_; refine s_mv ?_) | refine o_nil ?_ | (refine g_len ?_; first | refine s_lenB ?_ | refine s_pure ?_) | (refine g_idx ?_; first | (refine s_idxOB ?_; intro p hp hpw) | (refine s_idxB ?_; intro p hp)) | (refine g_pure ?_; first | refine s_pure ?_ | refine s_saddB ?_) | (refine g_hload ?_; refine s_hloadP ?_)) | (with_reducible refine i_vc ?_; first | refine v_seq ?_ | refine v_ops ?_ | (refine g_cond ?_; first | refine s_cond_t ?_ | refine s_cond_f ?_) | refine v_block ?_ | refine v_skip ?_ | refine v_exit ?_ | refine v_ret ?_) | (with_reducible first | refine n_then ?_ | refine r_then ?_ | refine e_then ?_ | refine n_block ?_ | refine r_block ?_ | refine e_block_eq (by with_unfolding_all rfl) ?_ | refine e_block_ne (by with_unfolding_all rfl) ?_) | ((with_reducible first | refine s_cond_c ?_ ?_) <;> intro hb <;> rw [hb] <;> (try simp only [decide_eq_true_eq, decide_eq_false_iff_not, beq_iff_eq, bne_iff_ne, beq_eq_false_iff_ne, bne_eq_false_iff_eq, ne_eq, Int.not_lt, Int.not_le, gt_iff_lt, ge_iff_le, Bool.not_eq_true', Bool.not_eq_false'] at hb)) | ((with_reducible first | refine s_ret ?_ | refine s_normal ?_); try simp only [x_tup0, x_tup1, x_tup2, x_tup3, x_tup4, x_tup5, and_true, true_and])))
    refine o_appendO (by with_unfolding_all rfl) (by with_unfolding_all rfl) r2.2.2.1 o2.sl rfl rfl (GH.le_trans hGH (GH.le_trans hle g2)) (by rw [lenl, n2]; omega) ?_
    intro l' H3 a1 a2 a3 a4 a5
    obtain ⟨q2, qB⟩ := r2.fst a1 a2 a4 a5
    (repeat' (first | (with_reducible refine i_ops ?_; first | (refine g_mv ?_; refine s_mv ?_) | refine o_nil ?_ | (refine g_len ?_; first | refine s_lenB ?_ | refine s_pure ?_) | (refine g_idx ?_; first | (refine s_idxOB ?_; intro p hp hpw) | (refine s_idxB ?_; intro p hp)) | (refine g_pure ?_; first | refine s_pure ?_ | refine s_saddB ?_) | (refine g_hload ?_; refine s_hloadP ?_)) | (with_reducible refine i_vc ?_; first | refine v_seq ?_ | refine v_ops ?_ | (refine g_cond ?_; first | refine s_cond_t ?_ | refine s_cond_f ?_) | refine v_block ?_ | refine v_skip ?_ | refine v_exit ?_ | refine v_ret ?_) | (with_reducible first | refine n_then ?_ | refine r_then ?_ | refine e_then ?_ | refine n_block ?_ | refine r_block ?_ | refine e_block_eq (by with_unfolding_all rfl) ?_ | refine e_block_ne (by with_unfolding_all rfl) ?_) | ((with_reducible first | refine s_cond_c ?_ ?_) <;> intro hb <;> rw [hb] <;> (try simp only [decide_eq_true_eq, decide_eq_false_iff_not, beq_iff_eq, bne_iff_ne, beq_eq_false_iff_ne, bne_eq_false_iff_eq, ne_eq, Int.not_lt, Int.not_le, gt_iff_lt, ge_iff_le, Bool.not_eq_true', Bool.not_eq_false'] at hb)) | ((with_reducible first | refine s_ret ?_ | refine s_normal ?_); try simp only [x_tup0, x_tup1, x_tup2, x_tup3, x_tup4, x_tup5, and_true, true_and])))
    exact ⟨ps.length - (k + 1), by omega, (k + 1, l', _, H3, _), rfl, ⟨by dsimp only; omega, q2, (k3.snoc mB (by rw [strOf_lt hk]; exact hwB) hwn).le (GH.le_trans rB qB)⟩, (by refine ⟨SL.get_fn (by with_unfolding_all rfl), SL.get_fn (by with_unfolding_all rfl), SL.get_fn (by with_unfolding_all rfl), SL.get_fn (by with_unfolding_all rfl), trivial⟩), trivial, rfl⟩
  · have hk : k = ps.length := by omega
    subst hk
    obtain ⟨wf, e1, e2, e3⟩ := k3
    obtain ⟨val, hval⟩ : ∃ val : Nat → Value, val = fun i => if i < ps.length then wf i else .slice none 0 0 := ⟨_, rfl⟩
    have v1 : ∀ i, i < ps.length → val i = wf i := fun i hi => by rw [hval]; simp [hi]
    have hv : Vals B val (strOf ps) := fun i => by
      by_cases hi : i < ps.length
      · rw [v1 i hi]; exact (e2 i hi).sl
      · rw [show val i = .slice none 0 0 by rw [hval]; simp [hi], show strOf ps i = [] by simp [strOf, Nat.le_of_not_lt hi]]; exact Sl.nil 1 B
    have e4 : xs = (List.range ps.length).map val := by
      rw [e1]; exact List.map_congr_left fun i hi => (v1 i (List.mem_range.1 hi)).symm
    have lB : ∀ c, blkS l = some c → B c = none := fun c hc => by rw [k2.1]; exact offb_none hc
    refine o_callc (by with_unfolding_all rfl) (sort45 hv l (List.range ps.length) List.pairwise_lt_range H hBH (by rw [List.length_range]; omega) (by rw [← e4]; exact ol.rebase lB)) ?_
    rintro _ H1 ⟨c1, M, c2, c3, c4⟩
    (repeat' (first | (with_reducible refine i_ops ?_; first | (refine g_mv ?_; refine s_mv ?_) | refine o_nil ?_ | (refine g_len ?_; first | refine s_lenB ?_ | refine s_pure ?_) | (refine g_idx ?_; first | (refine s_idxOB ?_; intro p hp hpw) | (refine s_idxB ?_; intro p hp)) | (refine g_pure ?_; first | refine s_pure ?_ | refine s_saddB ?_) | (refine g_hload ?_; refine s_hloadP ?_)) | (with_reducible refine i_vc ?_; first | refine v_seq ?_ | refine v_ops ?_ | (refine g_cond ?_; first | refine s_cond_t ?_ | refine s_cond_f ?_) | refine v_block ?_ | refine v_skip ?_ | refine v_exit ?_ | refine v_ret ?_) | (with_reducible first | refine n_then ?_ | refine r_then ?_ | refine e_then ?_ | refine n_block ?_ | refine r_block ?_ | refine e_block_eq (by with_unfolding_all rfl) ?_ | refine e_block_ne (by with_unfolding_all rfl) ?_) | ((with_reducible first | refine s_cond_c ?_ ?_) <;> intro hb <;> rw [hb] <;> (try simp only [decide_eq_true_eq, decide_eq_false_iff_not, beq_iff_eq, bne_iff_ne, beq_eq_false_iff_ne, bne_eq_false_iff_eq, ne_eq, Int.not_lt, Int.not_le, gt_iff_lt, ge_iff_le, Bool.not_eq_true', Bool.not_eq_false'] at hb)) | ((with_reducible first | refine s_ret ?_ | refine s_normal ?_); try simp only [x_tup0, x_tup1, x_tup2, x_tup3, x_tup4, x_tup5, and_true, true_and])))
    exact ⟨val, M, B, c2, c3, k2.2.1, c1, lB, c4, fun i hi => by rw [v1 i hi]; exact e2 i hi, fun i j hij hj => by rw [v1 i (by omega), v1 j hj]; exact e3 i j hij hj⟩
end Go.Proofs.Ytkidjjnmdpbcaaa.V
