/- The stable sort. -/
import Derived.Test.YtkidjjnmdpbcaaaPcSF
set_option linter.unusedSimpArgs false
set_option linter.unusedVariables false
set_option linter.unnecessarySimpa false
namespace Go.Proofs.Ytkidjjnmdpbcaaa.V
open Go.RowKit Go.ChangeShapes Go.WideShapes
/-- What is in an earlier part stood ahead. -/
def Cr (Ls : List (List Nat)) : Prop := Ls.Pairwise fun c d => ∀ x ∈ c, ∀ y ∈ d, x < y
theorem cr_merge {Fs Ts : List (List Nat)} {d1 d2 M : List Nat} (h : Cr (Fs ++ d1 :: d2 :: Ts)) (hM : M.Perm (d1 ++ d2)) : Cr (Fs ++ M :: Ts) := by
  obtain ⟨a1, a2, a3⟩ := List.pairwise_append.1 h
  obtain ⟨b1, b2⟩ := List.pairwise_cons.1 a2
  obtain ⟨b3, b4⟩ := List.pairwise_cons.1 b2
  refine List.pairwise_append.2 ⟨a1, List.pairwise_cons.2 ⟨fun t ht x hx y hy => ?_, b4⟩, fun f hf t ht x hx y hy => ?_⟩
  · rcases List.mem_append.1 (hM.subset hx) with hx | hx
    · exact b1 t (List.mem_cons_of_mem _ ht) x hx y hy
    · exact b3 t ht x hx y hy
  · rcases List.mem_cons.1 ht with rfl | ht
    · rcases List.mem_append.1 (hM.subset hy) with hy | hy
      · exact a3 f hf d1 (List.mem_cons_self ..) x hx y hy
      · exact a3 f hf d2 (List.mem_cons_of_mem _ (List.mem_cons_self ..)) x hx y hy
    · exact a3 f hf t (List.mem_cons_of_mem _ (List.mem_cons_of_mem _ ht)) x hx y hy
theorem cr_split {Fs Ts : List (List Nat)} {D1 D2 M : List Nat} (h : Cr (Fs ++ (D1 ++ D2) :: Ts)) (h2 : ∀ x ∈ D1, ∀ y ∈ D2, x < y) (hM : M.Perm D1) : Cr (Fs ++ M :: D2 :: Ts) := by
  obtain ⟨a1, a2, a3⟩ := List.pairwise_append.1 h
  obtain ⟨b1, b2⟩ := List.pairwise_cons.1 a2
  refine List.pairwise_append.2 ⟨a1, List.pairwise_cons.2 ⟨fun t ht x hx y hy => ?_, List.pairwise_cons.2 ⟨fun t ht x hx y hy => b1 t ht x (List.mem_append_right _ hx) y hy, b2⟩⟩, fun f hf t ht x hx y hy => ?_⟩
  · rcases List.mem_cons.1 ht with rfl | ht
    · exact h2 x (hM.subset hx) y hy
    · exact b1 t ht x (List.mem_append_left _ (hM.subset hx)) y hy
  · rcases List.mem_cons.1 ht with rfl | ht
    · exact a3 f hf _ (List.mem_cons_self ..) x hx y (List.mem_append_left _ (hM.subset hy))
    · rcases List.mem_cons.1 ht with rfl | ht
      · exact a3 f hf _ (List.mem_cons_self ..) x hx y (List.mem_append_right _ hy)
      · exact a3 f hf t (List.mem_cons_of_mem _ ht) x hx y hy
theorem cr_two {Fs Ts : List (List Nat)} {d1 d2 : List Nat} (h : Cr (Fs ++ d1 :: d2 :: Ts)) : ∀ x ∈ d1, ∀ y ∈ d2, x < y :=
  (List.pairwise_cons.1 (List.pairwise_append.1 h).2.1).1 d2 (List.mem_cons_self ..)
section
variable {B : GH} {val : Nat → Value} {str : Nat → List UInt8}
/-- Parts that are sorted, each of so many. -/
def Pts (str : Nat → List UInt8) (n : Nat) (Ds : List (List Nat)) : Prop := ∀ d ∈ Ds, d.length = n ∧ d.Pairwise (ltI str)
theorem Pts.snoc {n : Nat} {Ds : List (List Nat)} {M : List Nat} (h : Pts str n Ds) (h1 : M.length = n) (h2 : M.Pairwise (ltI str)) : Pts str n (Ds ++ [M]) := fun d hd => by
  rcases List.mem_append.1 hd with hd | hd
  · exact h d hd
  · rw [List.mem_singleton.1 hd]; exact ⟨h1, h2⟩
set_option maxHeartbeats 1000000 in
theorem stable50 (hv : Vals B val str) (u : Value) (D : List Nat) (hD : D.Pairwise (· < ·)) (G : GH) (hB : B.le G) (hlen : D.length ≤ 140737488355328) (h : Own 1 B G u (D.map val)) : HC Try.prog 50 #[u, .int .i64 D.length, .func (.func 46) #[] #[]] G fun v G' => B.le G' ∧ ∃ M : List Nat, M.Perm D ∧ M.Pairwise (ltI str) ∧ Own 1 B G' u (M.map val) := by
  refine HC.start comp50 rfl ?_; unfold pc50
  (repeat' (first | (with_reducible refine i_ops ?_; first | (refine g_mv ?_; refine s_mv ?_) | refine o_nil ?_ | (refine g_len ?_; first | refine s_lenB ?_ | refine s_pure ?_) | (refine g_pure ?_; first | refine s_pure ?_ | refine s_saddB ?_)) | (with_reducible refine i_vc ?_; first | refine v_seq ?_ | refine v_ops ?_ | (refine g_cond ?_; first | refine s_cond_t ?_ | refine s_cond_f ?_) | refine v_block ?_ | refine v_skip ?_ | refine v_exit ?_ | refine v_ret ?_) | (with_reducible first | refine n_then ?_ | refine r_then ?_ | refine e_then ?_ | refine n_block ?_ | refine r_block ?_ | refine e_block_eq (by with_unfolding_all rfl) ?_ | refine e_block_ne (by with_unfolding_all rfl) ?_) | ((with_reducible first | refine s_cond_c ?_ ?_) <;> intro hb <;> rw [hb] <;> (try simp only [decide_eq_true_eq, decide_eq_false_iff_not, beq_iff_eq, bne_iff_ne, beq_eq_false_iff_ne, bne_eq_false_iff_eq, ne_eq, Int.not_lt, Int.not_le, gt_iff_lt, ge_iff_le, Bool.not_eq_true', Bool.not_eq_false'] at hb)) | ((with_reducible first | refine s_ret ?_ | refine s_normal ?_); try simp only [x_tup0, x_tup1, x_tup2, x_tup3, x_tup4, x_tup5, and_true, true_and])))
  refine v_loopX (α := (List (List Nat) × List Nat) × GH) (fun q => (Pts str 20 q.1.1 ∧ q.1.2.Pairwise (· < ·) ∧ Cr (q.1.1 ++ [q.1.2]) ∧ (q.1.1.flatten ++ q.1.2).Perm D) ∧ B.le q.2 ∧ Own 1 B q.2 u ((q.1.1.flatten ++ q.1.2).map val)) (fun q => [(0, u), (1, .int .i64 D.length), (2, .func (.func 46) #[] #[]), (6, .int .i64 20), (7, .int .i64 q.1.1.flatten.length), (8, .int .i64 (q.1.1.flatten.length + 20))]) (fun _ => []) (fun q => q.2) (fun q => q.1.2.length) (([], D), G)
    ⟨⟨fun d hd => (by cases hd), hD, List.pairwise_singleton _ _, List.Perm.refl _⟩, hB, h⟩ (by refine ⟨SL.get_fn (by with_unfolding_all rfl), SL.get_fn (by with_unfolding_all rfl), SL.get_fn (by with_unfolding_all rfl), SL.get_fn (by with_unfolding_all rfl), SL.get_fn (by with_unfolding_all rfl), SL.get_fn (by with_unfolding_all rfl), trivial⟩) trivial rfl ?_
  clear h hB
  rintro ⟨⟨Ds, E⟩, H⟩ s l ⟨⟨k1, k2, k3, k4⟩, k5, k6⟩
  dsimp only at k1 k2 k3 k4 k5 k6
  dsimp only [SL.sets, AL.sets]
  have hl := k4.length_eq
  rw [List.length_append] at hl
  (repeat' (first | (with_reducible refine i_ops ?_; first | (refine g_mv ?_; refine s_mv ?_) | refine o_nil ?_ | (refine g_len ?_; first | refine s_lenB ?_ | refine s_pure ?_) | (refine g_pure ?_; first | refine s_pure ?_ | refine s_saddB ?_)) | (with_reducible refine i_vc ?_; first | refine v_seq ?_ | refine v_ops ?_ | (refine g_cond ?_; first | refine s_cond_t ?_ | refine s_cond_f ?_) | refine v_block ?_ | refine v_skip ?_ | refine v_exit ?_ | refine v_ret ?_) | (with_reducible first | refine n_then ?_ | refine r_then ?_ | refine e_then ?_ | refine n_block ?_ | refine r_block ?_ | refine e_block_eq (by with_unfolding_all rfl) ?_ | refine e_block_ne (by with_unfolding_all rfl) ?_) | ((with_reducible first | refine s_cond_c ?_ ?_) <;> intro hb <;> rw [hb] <;> (try simp only [decide_eq_true_eq, decide_eq_false_iff_not, beq_iff_eq, bne_iff_ne, beq_eq_false_iff_ne, bne_eq_false_iff_eq, ne_eq, Int.not_lt, Int.not_le, gt_iff_lt, ge_iff_le, Bool.not_eq_true', Bool.not_eq_false'] at hb)) | ((with_reducible first | refine s_ret ?_ | refine s_normal ?_); try simp only [x_tup0, x_tup1, x_tup2, x_tup3, x_tup4, x_tup5, and_true, true_and])))
  · have e : E = E.take 20 ++ E.drop 20 := (List.take_append_drop _ _).symm
    have l1 : (E.take 20).length = 20 := by rw [List.length_take]; omega
    have l2 : (E.drop 20).length = E.length - 20 := List.length_drop ..
    have k2' := k2
    rw [e] at k2'
    obtain ⟨p1, p2, p3⟩ := List.pairwise_append.1 k2'
    refine o_callc (by with_unfolding_all rfl) (ins51 hv u Ds.flatten (E.take 20) (E.drop 20) _ _ rfl (by omega) p1 H k5 (by simp only [List.length_append]; omega) (by rw [List.append_assoc, ← e]; exact k6)) ?_
    rintro _ H1 ⟨c1, M, c2, c3, c4⟩
    have lM := c2.length_eq
    (repeat' (first | (with_reducible refine i_ops ?_; first | (refine g_mv ?_; refine s_mv ?_) | refine o_nil ?_ | (refine g_len ?_; first | refine s_lenB ?_ | refine s_pure ?_) | (refine g_pure ?_; first | refine s_pure ?_ | refine s_saddB ?_)) | (with_reducible refine i_vc ?_; first | refine v_seq ?_ | refine v_ops ?_ | (refine g_cond ?_; first | refine s_cond_t ?_ | refine s_cond_f ?_) | refine v_block ?_ | refine v_skip ?_ | refine v_exit ?_ | refine v_ret ?_) | (with_reducible first | refine n_then ?_ | refine r_then ?_ | refine e_then ?_ | refine n_block ?_ | refine r_block ?_ | refine e_block_eq (by with_unfolding_all rfl) ?_ | refine e_block_ne (by with_unfolding_all rfl) ?_) | ((with_reducible first | refine s_cond_c ?_ ?_) <;> intro hb <;> rw [hb] <;> (try simp only [decide_eq_true_eq, decide_eq_false_iff_not, beq_iff_eq, bne_iff_ne, beq_eq_false_iff_ne, bne_eq_false_iff_eq, ne_eq, Int.not_lt, Int.not_le, gt_iff_lt, ge_iff_le, Bool.not_eq_true', Bool.not_eq_false'] at hb)) | ((with_reducible first | refine s_ret ?_ | refine s_normal ?_); try simp only [x_tup0, x_tup1, x_tup2, x_tup3, x_tup4, x_tup5, and_true, true_and])))
    refine ⟨_, ?_, ((Ds ++ [M], E.drop 20), H1), rfl, ⟨⟨k1.snoc (by omega) c3, p2, ?_, ?_⟩, c1, ?_⟩, ⟨SL.get_fn (by with_unfolding_all rfl), SL.get_fn (by with_unfolding_all rfl), SL.get_fn (by with_unfolding_all rfl), SL.get_fn (by with_unfolding_all rfl), ?_, ?_, trivial⟩, trivial, rfl⟩
    · dsimp only; omega
    · dsimp only
      rw [e] at k3
      have := cr_split (Fs := Ds) (Ts := []) k3 p3 c2
      simpa using this
    · dsimp only
      refine List.Perm.trans ?_ k4
      rw [List.flatten_append, List.flatten_singleton, List.append_assoc]
      refine List.Perm.append_left _ ?_
      exact (List.Perm.append_right _ c2).trans (by rw [← e])
    · dsimp only
      simpa using c4
    · dsimp only
      rw [show (((Ds ++ [M]).flatten.length : Nat) : Int) = Ds.flatten.length + 20 by simp; omega]; exact SL.get_fn (by with_unfolding_all rfl)
    · dsimp only
      rw [show (((Ds ++ [M]).flatten.length : Nat) : Int) + 20 = Ds.flatten.length + 20 + 20 by simp; omega]; exact SL.get_fn (by with_unfolding_all rfl)
  have hE : E.length < 20 := by omega
  refine o_callc (by with_unfolding_all rfl) (ins51 hv u Ds.flatten E [] _ _ rfl (by omega) k2 H k5 (by simp only [List.length_append, List.length_nil]; omega) (by simpa using k6)) ?_
  rintro _ H1 ⟨c1, M, c2, c3, c4⟩
  have lM := c2.length_eq
  have k3' : Cr (Ds ++ [M]) := by
    have := cr_split (Fs := Ds) (Ts := []) (D1 := E) (D2 := []) (by simpa using k3) (fun x _ y hy => by cases hy) c2
    refine List.Pairwise.sublist ?_ this
    exact List.Sublist.append_left (List.Sublist.cons_cons _ (List.nil_sublist _)) _
  have k4' : (Ds.flatten ++ M).Perm D := (List.Perm.append_left _ c2).trans k4
  have c4' : Own 1 B H1 u ((Ds.flatten ++ M).map val) := by simpa using c4
  clear k2 k3 k4 k5 k6 c4 hl hb c2
  (repeat' (first | (with_reducible refine i_ops ?_; first | (refine g_mv ?_; refine s_mv ?_) | refine o_nil ?_ | (refine g_len ?_; first | refine s_lenB ?_ | refine s_pure ?_) | (refine g_pure ?_; first | refine s_pure ?_ | refine s_saddB ?_)) | (with_reducible refine i_vc ?_; first | refine v_seq ?_ | refine v_ops ?_ | (refine g_cond ?_; first | refine s_cond_t ?_ | refine s_cond_f ?_) | refine v_block ?_ | refine v_skip ?_ | refine v_exit ?_ | refine v_ret ?_) | (with_reducible first | refine n_then ?_ | refine r_then ?_ | refine e_then ?_ | refine n_block ?_ | refine r_block ?_ | refine e_block_eq (by with_unfolding_all rfl) ?_ | refine e_block_ne (by with_unfolding_all rfl) ?_) | ((with_reducible first | refine s_cond_c ?_ ?_) <;> intro hb <;> rw [hb] <;> (try simp only [decide_eq_true_eq, decide_eq_false_iff_not, beq_iff_eq, bne_iff_ne, beq_eq_false_iff_ne, bne_eq_false_iff_eq, ne_eq, Int.not_lt, Int.not_le, gt_iff_lt, ge_iff_le, Bool.not_eq_true', Bool.not_eq_false'] at hb)) | ((with_reducible first | refine s_ret ?_ | refine s_normal ?_); try simp only [x_tup0, x_tup1, x_tup2, x_tup3, x_tup4, x_tup5, and_true, true_and])))
  refine v_loopX (α := Nat × (List (List Nat) × List Nat) × GH) (fun q => (0 < q.1 ∧ Pts str q.1 q.2.1.1 ∧ q.2.1.2.Pairwise (ltI str) ∧ q.2.1.2.length < q.1 ∧ Cr (q.2.1.1 ++ [q.2.1.2]) ∧ (q.2.1.1.flatten ++ q.2.1.2).Perm D) ∧ B.le q.2.2 ∧ Own 1 B q.2.2 u ((q.2.1.1.flatten ++ q.2.1.2).map val)) (fun q => [(0, u), (1, .int .i64 D.length), (2, .func (.func 46) #[] #[]), (6, .int .i64 q.1)]) (fun _ => []) (fun q => q.2.2) (fun q => D.length - q.1) (20, (Ds, M), H1)
    ⟨⟨by dsimp only; omega, k1, c3, by dsimp only; omega, k3', k4'⟩, c1, c4'⟩ (by refine ⟨SL.get_fn (by with_unfolding_all rfl), SL.get_fn (by with_unfolding_all rfl), SL.get_fn (by with_unfolding_all rfl), SL.get_fn (by with_unfolding_all rfl), trivial⟩) trivial rfl ?_
  clear k1 c3 k3' k4' c1 c4' lM hE M Ds E H H1
  rintro ⟨n, ⟨Ds, E⟩, H⟩ s l ⟨⟨k0, k1, k2, k3, k4, k5⟩, k6, k7⟩
  dsimp only at k0 k1 k2 k3 k4 k5 k6 k7
  dsimp only [SL.sets, AL.sets]
  have hl := k5.length_eq
  rw [List.length_append] at hl
  (repeat' (first | (with_reducible refine i_ops ?_; first | (refine g_mv ?_; refine s_mv ?_) | refine o_nil ?_ | (refine g_len ?_; first | refine s_lenB ?_ | refine s_pure ?_) | (refine g_pure ?_; first | refine s_pure ?_ | refine s_saddB ?_)) | (with_reducible refine i_vc ?_; first | refine v_seq ?_ | refine v_ops ?_ | (refine g_cond ?_; first | refine s_cond_t ?_ | refine s_cond_f ?_) | refine v_block ?_ | refine v_skip ?_ | refine v_exit ?_ | refine v_ret ?_) | (with_reducible first | refine n_then ?_ | refine r_then ?_ | refine e_then ?_ | refine n_block ?_ | refine r_block ?_ | refine e_block_eq (by with_unfolding_all rfl) ?_ | refine e_block_ne (by with_unfolding_all rfl) ?_) | ((with_reducible first | refine s_cond_c ?_ ?_) <;> intro hb <;> rw [hb] <;> (try simp only [decide_eq_true_eq, decide_eq_false_iff_not, beq_iff_eq, bne_iff_ne, beq_eq_false_iff_ne, bne_eq_false_iff_eq, ne_eq, Int.not_lt, Int.not_le, gt_iff_lt, ge_iff_le, Bool.not_eq_true', Bool.not_eq_false'] at hb)) | ((with_reducible first | refine s_ret ?_ | refine s_normal ?_); try simp only [x_tup0, x_tup1, x_tup2, x_tup3, x_tup4, x_tup5, and_true, true_and])))
  · refine v_loopX (α := (List (List Nat) × List (List Nat)) × GH) (fun q => (Pts str (2 * n) q.1.1 ∧ Pts str n q.1.2 ∧ Cr (q.1.1 ++ (q.1.2 ++ [E])) ∧ (q.1.1.flatten ++ (q.1.2.flatten ++ E)).Perm D) ∧ B.le q.2 ∧ Own 1 B q.2 u ((q.1.1.flatten ++ (q.1.2.flatten ++ E)).map val)) (fun q => [(0, u), (1, .int .i64 D.length), (2, .func (.func 46) #[] #[]), (6, .int .i64 n), (7, .int .i64 q.1.1.flatten.length), (8, .int .i64 (q.1.1.flatten.length + 2 * n))]) (fun _ => []) (fun q => q.2) (fun q => q.1.2.length) (([], Ds), H)
      ⟨⟨fun d hd => (by cases hd), k1, k4, k5⟩, k6, k7⟩ ⟨SL.get_fn (by with_unfolding_all rfl), SL.get_fn (by with_unfolding_all rfl), SL.get_fn (by with_unfolding_all rfl), SL.get_fn (by with_unfolding_all rfl), SL.get_fn (by with_unfolding_all rfl), by dsimp only; rw [show (([] : List (List Nat)).flatten.length : Int) + 2 * n = 2 * n by simp]; exact SL.get_fn (by with_unfolding_all rfl), trivial⟩ trivial rfl ?_
    clear k1 k4 k5 k6 k7 hl Ds H
    rintro ⟨⟨Fs, Ds⟩, H⟩ s l ⟨⟨j1, j2, j3, j4⟩, j5, j6⟩
    dsimp only at j1 j2 j3 j4 j5 j6
    dsimp only [SL.sets, AL.sets]
    have hl := j4.length_eq
    rw [List.length_append, List.length_append] at hl
    (repeat' (first | (with_reducible refine i_ops ?_; first | (refine g_mv ?_; refine s_mv ?_) | refine o_nil ?_ | (refine g_len ?_; first | refine s_lenB ?_ | refine s_pure ?_) | (refine g_pure ?_; first | refine s_pure ?_ | refine s_saddB ?_)) | (with_reducible refine i_vc ?_; first | refine v_seq ?_ | refine v_ops ?_ | (refine g_cond ?_; first | refine s_cond_t ?_ | refine s_cond_f ?_) | refine v_block ?_ | refine v_skip ?_ | refine v_exit ?_ | refine v_ret ?_) | (with_reducible first | refine n_then ?_ | refine r_then ?_ | refine e_then ?_ | refine n_block ?_ | refine r_block ?_ | refine e_block_eq (by with_unfolding_all rfl) ?_ | refine e_block_ne (by with_unfolding_all rfl) ?_) | ((with_reducible first | refine s_cond_c ?_ ?_) <;> intro hb <;> rw [hb] <;> (try simp only [decide_eq_true_eq, decide_eq_false_iff_not, beq_iff_eq, bne_iff_ne, beq_eq_false_iff_ne, bne_eq_false_iff_eq, ne_eq, Int.not_lt, Int.not_le, gt_iff_lt, ge_iff_le, Bool.not_eq_true', Bool.not_eq_false'] at hb)) | ((with_reducible first | refine s_ret ?_ | refine s_normal ?_); try simp only [x_tup0, x_tup1, x_tup2, x_tup3, x_tup4, x_tup5, and_true, true_and])))
    · rcases Ds with _ | ⟨d1, _ | ⟨d2, Ts⟩⟩
      · exfalso; simp only [List.flatten_nil, List.length_nil] at hl; omega
      · exfalso
        have := (j2 d1 (List.mem_cons_self ..)).1
        simp only [List.flatten_cons, List.flatten_nil, List.length_append, List.length_nil] at hl; omega
      · obtain ⟨a1, a2⟩ := j2 d1 (List.mem_cons_self ..)
        obtain ⟨b1, b2⟩ := j2 d2 (List.mem_cons_of_mem _ (List.mem_cons_self ..))
        simp only [List.flatten_cons, List.length_append] at hl
        refine o_callc (by with_unfolding_all rfl) (sym52 hv u _ d1 d2 (Nat.lt_succ_self _) (by omega) (by omega) Fs.flatten (Ts.flatten ++ E) _ _ _ H rfl (by omega) (by omega) a2 b2 (cr_two (Fs := Fs) (Ts := Ts ++ [E]) (by simpa using j3)) j5 (by simp only [List.length_append]; omega) (by simpa using j6)) ?_
        rintro _ H1 ⟨c1, M, c2, c3, c4⟩
        have lM := c2.length_eq
        rw [List.length_append] at lM
        (repeat' (first | (with_reducible refine i_ops ?_; first | (refine g_mv ?_; refine s_mv ?_) | refine o_nil ?_ | (refine g_len ?_; first | refine s_lenB ?_ | refine s_pure ?_) | (refine g_pure ?_; first | refine s_pure ?_ | refine s_saddB ?_)) | (with_reducible refine i_vc ?_; first | refine v_seq ?_ | refine v_ops ?_ | (refine g_cond ?_; first | refine s_cond_t ?_ | refine s_cond_f ?_) | refine v_block ?_ | refine v_skip ?_ | refine v_exit ?_ | refine v_ret ?_) | (with_reducible first | refine n_then ?_ | refine r_then ?_ | refine e_then ?_ | refine n_block ?_ | refine r_block ?_ | refine e_block_eq (by with_unfolding_all rfl) ?_ | refine e_block_ne (by with_unfolding_all rfl) ?_) | ((with_reducible first | refine s_cond_c ?_ ?_) <;> intro hb <;> rw [hb] <;> (try simp only [decide_eq_true_eq, decide_eq_false_iff_not, beq_iff_eq, bne_iff_ne, beq_eq_false_iff_ne, bne_eq_false_iff_eq, ne_eq, Int.not_lt, Int.not_le, gt_iff_lt, ge_iff_le, Bool.not_eq_true', Bool.not_eq_false'] at hb)) | ((with_reducible first | refine s_ret ?_ | refine s_normal ?_); try simp only [x_tup0, x_tup1, x_tup2, x_tup3, x_tup4, x_tup5, and_true, true_and])))
        refine ⟨_, ?_, ((Fs ++ [M], Ts), H1), rfl, ⟨⟨j1.snoc (by omega) c3, fun d hd => j2 d (List.mem_cons_of_mem _ (List.mem_cons_of_mem _ hd)), ?_, ?_⟩, c1, ?_⟩, ⟨SL.get_fn (by with_unfolding_all rfl), SL.get_fn (by with_unfolding_all rfl), SL.get_fn (by with_unfolding_all rfl), SL.get_fn (by with_unfolding_all rfl), ?_, ?_, trivial⟩, trivial, rfl⟩
        · dsimp only [List.length_cons]; omega
        · have := cr_merge (Fs := Fs) (Ts := Ts ++ [E]) (by simpa using j3) c2
          simpa using this
        · refine List.Perm.trans ?_ j4
          dsimp only
          simp only [List.flatten_append, List.flatten_singleton, List.flatten_cons, List.append_assoc]
          refine List.Perm.append_left _ ?_
          rw [← List.append_assoc d1]
          exact List.Perm.append_right _ c2
        · dsimp only
          simpa using c4
        · dsimp only
          rw [show (((Fs ++ [M]).flatten.length : Nat) : Int) = Fs.flatten.length + 2 * n by simp; omega]; exact SL.get_fn (by with_unfolding_all rfl)
        · dsimp only
          rw [show (((Fs ++ [M]).flatten.length : Nat) : Int) + 2 * n = Fs.flatten.length + 2 * n + 2 * n by simp; omega]; exact SL.get_fn (by with_unfolding_all rfl)
    · rcases Ds with _ | ⟨d1, _ | ⟨d2, Ts⟩⟩
      · exfalso; simp only [List.flatten_nil, List.length_nil] at hl; omega
      · obtain ⟨a1, a2⟩ := j2 d1 (List.mem_cons_self ..)
        simp only [List.flatten_cons, List.flatten_nil, List.append_nil] at hl j4 j6
        refine o_callc (by with_unfolding_all rfl) (sym52 hv u _ d1 E (Nat.lt_succ_self _) (by omega) (by omega) Fs.flatten [] _ _ _ H rfl (by omega) (by omega) a2 k2 (cr_two (Fs := Fs) (Ts := []) (by simpa using j3)) j5 (by simp only [List.length_append, List.length_nil]; omega) (by simpa using j6)) ?_
        rintro _ H1 ⟨c1, M, c2, c3, c4⟩
        have lM := c2.length_eq
        rw [List.length_append] at lM
        (repeat' (first | (with_reducible refine i_ops ?_; first | (refine g_mv ?_; refine s_mv ?_) | refine o_nil ?_ | (refine g_len ?_; first | refine s_lenB ?_ | refine s_pure ?_) | (refine g_pure ?_; first | refine s_pure ?_ | refine s_saddB ?_)) | (with_reducible refine i_vc ?_; first | refine v_seq ?_ | refine v_ops ?_ | (refine g_cond ?_; first | refine s_cond_t ?_ | refine s_cond_f ?_) | refine v_block ?_ | refine v_skip ?_ | refine v_exit ?_ | refine v_ret ?_) | (with_reducible first | refine n_then ?_ | refine r_then ?_ | refine e_then ?_ | refine n_block ?_ | refine r_block ?_ | refine e_block_eq (by with_unfolding_all rfl) ?_ | refine e_block_ne (by with_unfolding_all rfl) ?_) | ((with_reducible first | refine s_cond_c ?_ ?_) <;> intro hb <;> rw [hb] <;> (try simp only [decide_eq_true_eq, decide_eq_false_iff_not, beq_iff_eq, bne_iff_ne, beq_eq_false_iff_ne, bne_eq_false_iff_eq, ne_eq, Int.not_lt, Int.not_le, gt_iff_lt, ge_iff_le, Bool.not_eq_true', Bool.not_eq_false'] at hb)) | ((with_reducible first | refine s_ret ?_ | refine s_normal ?_); try simp only [x_tup0, x_tup1, x_tup2, x_tup3, x_tup4, x_tup5, and_true, true_and])))
        refine ⟨_, ?_, (2 * n, (Fs, M), H1), rfl, ⟨⟨by dsimp only; omega, j1, c3, by dsimp only; omega, cr_merge (Fs := Fs) (Ts := []) (by simpa using j3) c2, (List.Perm.append_left _ c2).trans j4⟩, c1, by simpa using c4⟩, ⟨SL.get_fn (by with_unfolding_all rfl), SL.get_fn (by with_unfolding_all rfl), SL.get_fn (by with_unfolding_all rfl), ?_, trivial⟩, trivial, rfl⟩
        · dsimp only; omega
        · dsimp only
          rw [show ((2 * n : Nat) : Int) = n * 2 by omega]; exact SL.get_fn (by with_unfolding_all rfl)
      · exfalso
        have := (j2 d1 (List.mem_cons_self ..)).1
        have := (j2 d2 (List.mem_cons_of_mem _ (List.mem_cons_self ..))).1
        simp only [List.flatten_cons, List.length_append] at hl
        omega
    · rcases Ds with _ | ⟨d1, _ | ⟨d2, Ts⟩⟩
      · simp only [List.flatten_nil, List.nil_append] at hl j4 j6 j3
        refine ⟨_, ?_, (2 * n, (Fs, E), H), rfl, ⟨⟨by dsimp only; omega, j1, k2, by dsimp only; omega, j3, j4⟩, j5, j6⟩, ⟨SL.get_fn (by with_unfolding_all rfl), SL.get_fn (by with_unfolding_all rfl), SL.get_fn (by with_unfolding_all rfl), ?_, trivial⟩, trivial, rfl⟩
        · dsimp only; omega
        · dsimp only
          rw [show ((2 * n : Nat) : Int) = n * 2 by omega]; exact SL.get_fn (by with_unfolding_all rfl)
      · obtain ⟨a1, a2⟩ := j2 d1 (List.mem_cons_self ..)
        simp only [List.flatten_cons, List.flatten_nil, List.append_nil] at hl j4 j6
        have hE : E = [] := List.eq_nil_of_length_eq_zero (by omega)
        subst hE
        rw [List.append_nil] at j4 j6
        refine ⟨_, ?_, (2 * n, (Fs, d1), H), rfl, ⟨⟨by dsimp only; omega, j1, a2, by dsimp only; omega, ?_, j4⟩, j5, j6⟩, ⟨SL.get_fn (by with_unfolding_all rfl), SL.get_fn (by with_unfolding_all rfl), SL.get_fn (by with_unfolding_all rfl), ?_, trivial⟩, trivial, rfl⟩
        · dsimp only; omega
        · exact cr_merge (Fs := Fs) (Ts := []) (d1 := d1) (d2 := []) (by simpa using j3) (by simp)
        · dsimp only
          rw [show ((2 * n : Nat) : Int) = n * 2 by omega]; exact SL.get_fn (by with_unfolding_all rfl)
      · exfalso
        have := (j2 d1 (List.mem_cons_self ..)).1
        have := (j2 d2 (List.mem_cons_of_mem _ (List.mem_cons_self ..))).1
        simp only [List.flatten_cons, List.length_append] at hl
        omega
  · rcases Ds with _ | ⟨d1, Ts⟩
    · exact ⟨k6, E, by simpa using k5, k2, by simpa using k7⟩
    · obtain ⟨a1, a2⟩ := k1 d1 (List.mem_cons_self ..)
      simp only [List.flatten_cons, List.length_append] at hl
      have hE : E = [] := List.eq_nil_of_length_eq_zero (by omega)
      have hT : Ts.flatten = [] := List.eq_nil_of_length_eq_zero (by omega)
      rw [List.flatten_cons, hT, hE, List.append_nil, List.append_nil] at k5 k7
      exact ⟨k6, d1, k5, a2, k7⟩
theorem sort45 (hv : Vals B val str) (u : Value) (D : List Nat) (hD : D.Pairwise (· < ·)) (G : GH) (hB : B.le G) (hlen : D.length ≤ 140737488355328) (h : Own 1 B G u (D.map val)) : HC Try.prog 45 #[u, .func (.func 46) #[] #[]] G fun v G' => B.le G' ∧ ∃ M : List Nat, M.Perm D ∧ M.Pairwise (ltI str) ∧ Own 1 B G' u (M.map val) := by
  obtain ⟨ua, un, uc, rfl⟩ := h.sl.shape
  have hn : un = D.length := by have := h.sl.len; simp only [lenS, List.length_map] at this; omega
  refine HC.start comp45 rfl ?_; unfold pc45
  (repeat' (first | (with_reducible refine i_ops ?_; first | (refine g_mv ?_; refine s_mv ?_) | refine o_nil ?_ | (refine g_len ?_; first | refine s_lenB ?_ | refine s_pure ?_) | (refine g_pure ?_; first | refine s_pure ?_ | refine s_saddB ?_)) | (with_reducible refine i_vc ?_; first | refine v_seq ?_ | refine v_ops ?_ | (refine g_cond ?_; first | refine s_cond_t ?_ | refine s_cond_f ?_) | refine v_block ?_ | refine v_skip ?_ | refine v_exit ?_ | refine v_ret ?_) | (with_reducible first | refine n_then ?_ | refine r_then ?_ | refine e_then ?_ | refine n_block ?_ | refine r_block ?_ | refine e_block_eq (by with_unfolding_all rfl) ?_ | refine e_block_ne (by with_unfolding_all rfl) ?_) | ((with_reducible first | refine s_cond_c ?_ ?_) <;> intro hb <;> rw [hb] <;> (try simp only [decide_eq_true_eq, decide_eq_false_iff_not, beq_iff_eq, bne_iff_ne, beq_eq_false_iff_ne, bne_eq_false_iff_eq, ne_eq, Int.not_lt, Int.not_le, gt_iff_lt, ge_iff_le, Bool.not_eq_true', Bool.not_eq_false'] at hb)) | ((with_reducible first | refine s_ret ?_ | refine s_normal ?_); try simp only [x_tup0, x_tup1, x_tup2, x_tup3, x_tup4, x_tup5, and_true, true_and])))
  rw [hn] at h ⊢
  refine o_callc (by with_unfolding_all rfl) (stable50 hv _ D hD G hB hlen h) ?_
  rintro _ H1 ⟨c1, M, c2, c3, c4⟩
  (repeat' (first | (with_reducible refine i_ops ?_; first | (refine g_mv ?_; refine s_mv ?_) | refine o_nil ?_ | (refine g_len ?_; first | refine s_lenB ?_ | refine s_pure ?_) | (refine g_pure ?_; first | refine s_pure ?_ | refine s_saddB ?_)) | (with_reducible refine i_vc ?_; first | refine v_seq ?_ | refine v_ops ?_ | (refine g_cond ?_; first | refine s_cond_t ?_ | refine s_cond_f ?_) | refine v_block ?_ | refine v_skip ?_ | refine v_exit ?_ | refine v_ret ?_) | (with_reducible first | refine n_then ?_ | refine r_then ?_ | refine e_then ?_ | refine n_block ?_ | refine r_block ?_ | refine e_block_eq (by with_unfolding_all rfl) ?_ | refine e_block_ne (by with_unfolding_all rfl) ?_) | ((with_reducible first | refine s_cond_c ?_ ?_) <;> intro hb <;> rw [hb] <;> (try simp only [decide_eq_true_eq, decide_eq_false_iff_not, beq_iff_eq, bne_iff_ne, beq_eq_false_iff_ne, bne_eq_false_iff_eq, ne_eq, Int.not_lt, Int.not_le, gt_iff_lt, ge_iff_le, Bool.not_eq_true', Bool.not_eq_false'] at hb)) | ((with_reducible first | refine s_ret ?_ | refine s_normal ?_); try simp only [x_tup0, x_tup1, x_tup2, x_tup3, x_tup4, x_tup5, and_true, true_and])))
  exact ⟨c1, M, c2, c3, c4⟩
end
end Go.Proofs.Ytkidjjnmdpbcaaa.V
