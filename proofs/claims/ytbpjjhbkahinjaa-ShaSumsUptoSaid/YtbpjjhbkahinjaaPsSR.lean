/- Pieces that come in, of bulk; ShaSums. -/
import Derived.Test.YtbpjjhbkahinjaaPsSQ
import Derived.Test.YtbpjjhbkahinjaaPsSE
import Derived.Test.YtbpjjhbkahinjaaPsVL
import Derived.Test.YtbpjjhbkahinjaaRows
set_option linter.unusedSimpArgs false
set_option linter.unusedVariables false
-- @extra s_eqDt s_eqDf
namespace Go.Proofs.Ytbpjjhbkahinjaa.V
open Go.RowKit Go.ChangeShapes Go.WideShapes Go.ChangeAt
theorem bulk_pos {H : Type} (d : DataW H) : 1 ≤ Rows.uptoBulk d := by
  cases d with
  | lit l => cases l <;> simp [Rows.uptoBulk]
  | _ => simp [Rows.uptoBulk]
theorem bulk_len {H : Type} : ∀ l : List (DataW H), l.length ≤ Rows.uptoBulkAll l
  | [] => by simp
  | d :: r => by
    have a := bulk_pos d
    have b := bulk_len r
    simp only [Rows.uptoBulkAll, List.length_cons]; omega
theorem bulk_mem {H : Type} : ∀ {l : List (DataW H)} {d : DataW H}, d ∈ l → Rows.uptoBulk d ≤ Rows.uptoBulkAll l
  | x :: l, d, h => by
    simp only [Rows.uptoBulkAll]
    rcases List.mem_cons.1 h with rfl | h
    · omega
    · have := bulk_mem h; omega
theorem bulk_slice1 {H : Type} (elems spare : List (DataW H)) : elems.length ≤ Rows.uptoBulk (DataW.slice elems spare) := by
  have b := bulk_len elems
  simp only [Rows.uptoBulk]; omega
theorem bulk_take {H : Type} : ∀ {l : List (DataW H)} {i : Nat} {d : DataW H}, l[i]? = some d → Rows.uptoBulkAll (l.take (i + 1)) = Rows.uptoBulkAll (l.take i) + Rows.uptoBulk d
  | x :: l, 0, d, h => by
    simp only [List.getElem?_cons_zero, Option.some.injEq] at h
    subst h
    simp [Rows.uptoBulkAll]
  | x :: l, i + 1, d, h => by
    simp only [List.getElem?_cons_succ] at h
    rw [List.take_succ_cons, List.take_succ_cons]
    simp only [Rows.uptoBulkAll]
    rw [bulk_take h]; omega
theorem bulk_le {H : Type} : ∀ (l : List (DataW H)) (i : Nat), Rows.uptoBulkAll (l.take i) ≤ Rows.uptoBulkAll l
  | [], i => by simp
  | x :: l, 0 => by simp [Rows.uptoBulkAll]
  | x :: l, i + 1 => by
    have := bulk_le l i
    rw [List.take_succ_cons]
    simp only [Rows.uptoBulkAll]; omega
theorem top_bytesU {H : Type} {enc : TypeId × Value → H} {P : Program} {w : World} {r : Reach} {base : Nat} {v : Value} {ps : List MemPlace} {t e : TypeId} {d : DataW H} {ds : List (DataW H)} (ht : P.underlying t = some (.slice e)) (he : P.underlying e = some (.int .u8)) (hn : P.cellsOf e = 1)
    (hv : Value.okWide P w r base t v) (h : DataW.Trod enc P w 0 (fun _ => true) true t v d ps) (hd : d ∈ ds) (hk : Rows.uptoBulkAll ds ≤ 1048576) : ∃ bs, By (whole w) v bs ∧ bs.length ≤ 1048576 := by
  obtain ⟨bs, hb, ⟨_, rfl⟩ | ⟨elems, spare, rfl, hl⟩⟩ := top_bytes ht he hn hv h
  · exact ⟨[], hb, by simp⟩
  · have := bulk_mem hd
    have := bulk_slice1 elems spare
    exact ⟨bs, hb, by omega⟩
theorem top_partsU {H : Type} {enc : TypeId × Value → H} {P : Program} {w : World} {r : Reach} {base : Nat} {v : Value} {pm : List MemPlace} {t e b : TypeId} {d : DataW H} {ds : List (DataW H)} (ht : P.underlying t = some (.slice e)) (he : P.underlying e = some (.slice b)) (hb : P.underlying b = some (.int .u8))
    (hn : P.cellsOf e = 1) (hn2 : P.cellsOf b = 1)
    (hv : Value.okWide P w r base t v) (h : DataW.Trod enc P w 0 (fun _ => true) true t v d pm) (hd : d ∈ ds) (hk : Rows.uptoBulkAll ds ≤ 1048576) :
    ∃ us ps, Parts (whole w) v us ps ∧ ps.length ≤ 1048576 ∧ ps.flatten.length ≤ 1048576 := by
  have hbm := bulk_mem hd
  rcases top_slice ht (by rw [hn]; decide) hv h with ⟨rfl, rfl⟩ | ⟨elems, spare, flat, rfl, h1, h2, h3⟩
  · exact ⟨[], [], ⟨Sl.nil 1 _, rfl, fun i hi => by simp at hi⟩, by simp, by simp⟩
  · rw [hn] at h2 h3
    have hlen := h2.len
    rw [Nat.mul_one] at hlen
    have hex : ∀ i, i < lenS v → ∃ u bs di, flat[i]? = some u ∧ By (whole w) u bs ∧ elems[i]? = some di ∧ bs.length ≤ Rows.uptoBulk di := by
      intro i hi
      obtain ⟨di, e1, e2⟩ := h3 i hi
      obtain ⟨u, bs, e3, e4, e5⟩ := Td.bytes he hb hn2 e2
      have e6 : flat[i]? = some u := by
        have := congrArg (fun l => l[0]?) e3
        simpa [List.getElem?_take, List.getElem?_drop] using this
      refine ⟨u, bs, di, e6, e4, e1, ?_⟩
      rcases e5 with ⟨_, rfl⟩ | ⟨el, sp, rfl, e7⟩
      · simp
      · have := bulk_slice1 el sp
        omega
    have hf : ∃ f : Nat → Value × List UInt8, ∀ i, i < lenS v → flat[i]? = some (f i).1 ∧ By (whole w) (f i).1 (f i).2 ∧ ∃ di, elems[i]? = some di ∧ (f i).2.length ≤ Rows.uptoBulk di := by
      refine ⟨fun i => if hi : i < lenS v then ((hex i hi).choose, (hex i hi).choose_spec.choose) else (.bool false, []), fun i hi => ?_⟩
      simp only [hi, dif_pos]
      obtain ⟨di, k⟩ := (hex i hi).choose_spec.choose_spec
      exact ⟨k.1, k.2.1, di, k.2.2⟩
    obtain ⟨f, hf⟩ := hf
    have hsum : ∀ n, n ≤ lenS v → ((List.range n).map fun i => (f i).2).flatten.length ≤ Rows.uptoBulkAll (elems.take n) := by
      intro n
      induction n with
      | zero => intro _; simp
      | succ n ih =>
        intro hn
        obtain ⟨_, _, di, k1, k2⟩ := hf n (by omega)
        have := ih (by omega)
        rw [map_range_succ, List.flatten_append, List.length_append, bulk_take k1]
        simp only [List.flatten_cons, List.flatten_nil, List.append_nil]; omega
    have s1 := hsum _ (Nat.le_refl _)
    have s2 := bulk_le elems (lenS v)
    have s3 := bulk_len elems
    have s4 : Rows.uptoBulkAll elems ≤ Rows.uptoBulk (DataW.slice elems spare) := by simp only [Rows.uptoBulk]; omega
    refine ⟨flat, (List.range (lenS v)).map fun i => (f i).2, ⟨h2, by simp [hlen], fun i hi => ?_⟩, ?_, by omega⟩
    · simp at hi
      obtain ⟨k1, k2, k3⟩ := hf i hi
      exact ⟨_, k1, by simpa using k2⟩
    · simp only [List.length_map, List.length_range]
      omega
theorem piece_le {ps : List (List UInt8)} {i : Nat} (h : i < ps.length) : ps[i].length ≤ ps.flatten.length := by
  have := flat_take h
  have b := flat_len ps (i + 1)
  rw [this, List.length_append] at b
  omega
theorem one_partsB {G1 G : GH} {w pc : Value} {x : List UInt8} (h1 : By G pc x) (h2 : Own 1 G1 G w [pc]) : Parts G w [pc] [x] :=
  ⟨h2.sl, rfl, fun i hi => by
    have : i = 0 := by simpa using hi
    subst this
    exact ⟨pc, rfl, h1⟩⟩
theorem small {ps : List (List UInt8)} (h : ps.flatten.length ≤ 1048576) : Pm ps := ⟨by omega, fun i hi => by have := piece_le hi; omega⟩
set_option maxHeartbeats 1000000 in
theorem sumsP (k u : Value) (key : List UInt8) (us : List Value) (ps : List (List UInt8)) (G : GH) (hk : By G k key) (hu : Parts G u us ps) (kl : key.length ≤ 1048576) (pl : ps.length ≤ 1048576) (fl : ps.flatten.length ≤ 1048576) :
    HC Try.prog 6 #[k, u] G fun v G' => v = .bool true ∧ G.le G' := by
  have hm1 : ∀ i (h : i < ps.length), ps[i].length ≤ 140737488355328 := fun i hi => by have := piece_le hi; omega
  obtain ⟨ka, kn, kc, rfl⟩ := hk.shape
  refine HC.start comp6 rfl ?_; unfold pc6
  (repeat' (first | (with_reducible refine i_ops ?_; first | (refine g_mv ?_; refine s_mv ?_) | refine o_nil ?_ | (refine g_some ?_; first | refine s_g_t ?_ | refine s_g_f ?_ | refine s_g_f' ?_ | refine s_g_u ?_) | (refine g_pick ?_; first | refine s_pick_t ?_ | refine s_pick_f ?_) | (refine g_idx ?_; first | (refine s_idxOB ?_; intro p hp hpw) | (refine s_idxB ?_; intro p hp)) | (refine g_pure ?_; first | refine s_eqDt ?_ | refine s_eqDf ?_ | refine s_pure ?_ | refine s_saddB ?_) | (refine g_hload ?_; refine s_hloadP ?_)) | (with_reducible refine i_vc ?_; first | refine v_seq ?_ | refine v_ops ?_ | (refine g_cond ?_; first | refine s_cond_t ?_ | refine s_cond_f ?_) | refine v_skip ?_ | refine v_ret ?_) | (with_reducible first | refine n_then ?_ | refine r_then ?_ | refine e_then ?_) | ((with_reducible first | refine s_g_c ?_ ?_ | refine s_cond_c ?_ ?_) <;> intro hb <;> rw [hb] <;> (try simp only [decide_eq_true_eq, decide_eq_false_iff_not, beq_iff_eq, bne_iff_ne, beq_eq_false_iff_ne, bne_eq_false_iff_eq, ne_eq, Int.not_lt, Int.not_le, gt_iff_lt, ge_iff_le, Bool.not_eq_true', Bool.not_eq_false'] at hb)) | ((with_reducible first | refine s_ret ?_ | refine s_normal ?_); try simp only [x_tup0, x_tup1, x_tup2, x_tup3, x_tup4, x_tup5, and_true, true_and])))
  refine o_callc (by with_unfolding_all rfl) (lentP u us ps G hu (by omega) hm1) ?_
  rintro v5 G1 ⟨g1, us5, l5⟩
  (repeat' (first | (with_reducible refine i_ops ?_; first | (refine g_mv ?_; refine s_mv ?_) | refine o_nil ?_ | (refine g_some ?_; first | refine s_g_t ?_ | refine s_g_f ?_ | refine s_g_f' ?_ | refine s_g_u ?_) | (refine g_pick ?_; first | refine s_pick_t ?_ | refine s_pick_f ?_) | (refine g_idx ?_; first | (refine s_idxOB ?_; intro p hp hpw) | (refine s_idxB ?_; intro p hp)) | (refine g_pure ?_; first | refine s_eqDt ?_ | refine s_eqDf ?_ | refine s_pure ?_ | refine s_saddB ?_) | (refine g_hload ?_; refine s_hloadP ?_)) | (with_reducible refine i_vc ?_; first | refine v_seq ?_ | refine v_ops ?_ | (refine g_cond ?_; first | refine s_cond_t ?_ | refine s_cond_f ?_) | refine v_skip ?_ | refine v_ret ?_) | (with_reducible first | refine n_then ?_ | refine r_then ?_ | refine e_then ?_) | ((with_reducible first | refine s_g_c ?_ ?_ | refine s_cond_c ?_ ?_) <;> intro hb <;> rw [hb] <;> (try simp only [decide_eq_true_eq, decide_eq_false_iff_not, beq_iff_eq, bne_iff_ne, beq_eq_false_iff_ne, bne_eq_false_iff_eq, ne_eq, Int.not_lt, Int.not_le, gt_iff_lt, ge_iff_le, Bool.not_eq_true', Bool.not_eq_false'] at hb)) | ((with_reducible first | refine s_ret ?_ | refine s_normal ?_); try simp only [x_tup0, x_tup1, x_tup2, x_tup3, x_tup4, x_tup5, and_true, true_and])))
  refine o_bsliceO (vs := [.slice ka kn kc]) (by with_unfolding_all rfl) rfl rfl rfl rfl rfl ?_
  intro w G2 g2 o2 _
  have hP1 := one_partsB (Sl.le hk (GH.le_trans g1 g2)) o2
  have hm2 : ∀ i (h : i < [key].length), [key][i].length ≤ 140737488355328 := fun i hi => by
    have : i = 0 := by simpa using hi
    subst this
    simp only [List.getElem_cons_zero]; omega
  refine o_callc (by with_unfolding_all rfl) (lentP w _ [key] G2 hP1 (by simp) hm2) ?_
  rintro v6 G3 ⟨g3, us6, l6⟩
  have l5 := l5.le (GH.le_trans g2 g3)
  have hG3 := GH.le_trans g1 (GH.le_trans g2 g3)
  clear hP1 hm2 g1 g2 g3 o2
  (repeat' (first | (with_reducible refine i_ops ?_; first | (refine g_mv ?_; refine s_mv ?_) | refine o_nil ?_ | (refine g_some ?_; first | refine s_g_t ?_ | refine s_g_f ?_ | refine s_g_f' ?_ | refine s_g_u ?_) | (refine g_pick ?_; first | refine s_pick_t ?_ | refine s_pick_f ?_) | (refine g_idx ?_; first | (refine s_idxOB ?_; intro p hp hpw) | (refine s_idxB ?_; intro p hp)) | (refine g_pure ?_; first | refine s_eqDt ?_ | refine s_eqDf ?_ | refine s_pure ?_ | refine s_saddB ?_) | (refine g_hload ?_; refine s_hloadP ?_)) | (with_reducible refine i_vc ?_; first | refine v_seq ?_ | refine v_ops ?_ | (refine g_cond ?_; first | refine s_cond_t ?_ | refine s_cond_f ?_) | refine v_skip ?_ | refine v_ret ?_) | (with_reducible first | refine n_then ?_ | refine r_then ?_ | refine e_then ?_) | ((with_reducible first | refine s_g_c ?_ ?_ | refine s_cond_c ?_ ?_) <;> intro hb <;> rw [hb] <;> (try simp only [decide_eq_true_eq, decide_eq_false_iff_not, beq_iff_eq, bne_iff_ne, beq_eq_false_iff_ne, bne_eq_false_iff_eq, ne_eq, Int.not_lt, Int.not_le, gt_iff_lt, ge_iff_le, Bool.not_eq_true', Bool.not_eq_false'] at hb)) | ((with_reducible first | refine s_ret ?_ | refine s_normal ?_); try simp only [x_tup0, x_tup1, x_tup2, x_tup3, x_tup4, x_tup5, and_true, true_and])))
  refine o_callc (by with_unfolding_all rfl) (sumP v5 us5 ps G3 l5.parts (small fl)) ?_
  rintro v G4 ⟨rfl, g4⟩
  (repeat' (first | (with_reducible refine i_ops ?_; first | (refine g_mv ?_; refine s_mv ?_) | refine o_nil ?_ | (refine g_some ?_; first | refine s_g_t ?_ | refine s_g_f ?_ | refine s_g_f' ?_ | refine s_g_u ?_) | (refine g_pick ?_; first | refine s_pick_t ?_ | refine s_pick_f ?_) | (refine g_idx ?_; first | (refine s_idxOB ?_; intro p hp hpw) | (refine s_idxB ?_; intro p hp)) | (refine g_pure ?_; first | refine s_eqDt ?_ | refine s_eqDf ?_ | refine s_pure ?_ | refine s_saddB ?_) | (refine g_hload ?_; refine s_hloadP ?_)) | (with_reducible refine i_vc ?_; first | refine v_seq ?_ | refine v_ops ?_ | (refine g_cond ?_; first | refine s_cond_t ?_ | refine s_cond_f ?_) | refine v_skip ?_ | refine v_ret ?_) | (with_reducible first | refine n_then ?_ | refine r_then ?_ | refine e_then ?_) | ((with_reducible first | refine s_g_c ?_ ?_ | refine s_cond_c ?_ ?_) <;> intro hb <;> rw [hb] <;> (try simp only [decide_eq_true_eq, decide_eq_false_iff_not, beq_iff_eq, bne_iff_ne, beq_eq_false_iff_ne, bne_eq_false_iff_eq, ne_eq, Int.not_lt, Int.not_le, gt_iff_lt, ge_iff_le, Bool.not_eq_true', Bool.not_eq_false'] at hb)) | ((with_reducible first | refine s_ret ?_ | refine s_normal ?_); try simp only [x_tup0, x_tup1, x_tup2, x_tup3, x_tup4, x_tup5, and_true, true_and])))
  refine o_callc (by with_unfolding_all rfl) (joinedP u us ps G4 (hu.le (GH.le_trans hG3 g4)) (by omega)) ?_
  rintro j1 G5 ⟨g5, o5⟩
  refine o_callc (by with_unfolding_all rfl) (rsum j1 ps.flatten G5 o5.sl (by omega)) ?_
  rintro v G6 ⟨rfl, g6⟩
  have h36 := GH.le_trans g4 (GH.le_trans g5 g6)
  clear g4 g5 g6 o5
  (repeat' (first | (with_reducible refine i_ops ?_; first | (refine g_mv ?_; refine s_mv ?_) | refine o_nil ?_ | (refine g_some ?_; first | refine s_g_t ?_ | refine s_g_f ?_ | refine s_g_f' ?_ | refine s_g_u ?_) | (refine g_pick ?_; first | refine s_pick_t ?_ | refine s_pick_f ?_) | (refine g_idx ?_; first | (refine s_idxOB ?_; intro p hp hpw) | (refine s_idxB ?_; intro p hp)) | (refine g_pure ?_; first | refine s_eqDt ?_ | refine s_eqDf ?_ | refine s_pure ?_ | refine s_saddB ?_) | (refine g_hload ?_; refine s_hloadP ?_)) | (with_reducible refine i_vc ?_; first | refine v_seq ?_ | refine v_ops ?_ | (refine g_cond ?_; first | refine s_cond_t ?_ | refine s_cond_f ?_) | refine v_skip ?_ | refine v_ret ?_) | (with_reducible first | refine n_then ?_ | refine r_then ?_ | refine e_then ?_) | ((with_reducible first | refine s_g_c ?_ ?_ | refine s_cond_c ?_ ?_) <;> intro hb <;> rw [hb] <;> (try simp only [decide_eq_true_eq, decide_eq_false_iff_not, beq_iff_eq, bne_iff_ne, beq_eq_false_iff_ne, bne_eq_false_iff_eq, ne_eq, Int.not_lt, Int.not_le, gt_iff_lt, ge_iff_le, Bool.not_eq_true', Bool.not_eq_false'] at hb)) | ((with_reducible first | refine s_ret ?_ | refine s_normal ?_); try simp only [x_tup0, x_tup1, x_tup2, x_tup3, x_tup4, x_tup5, and_true, true_and])))
  obtain ⟨kw, ek, lk⟩ := l6.2.2 0 (by simp)
  have l5' := l5.le h36
  have l6' := l6.le h36
  have h06 := GH.le_trans hG3 h36
  refine o_idxS (by with_unfolding_all rfl) l6'.1 (by with_unfolding_all rfl) (by omega) (v := kw) (by simpa using ek) ?_
  intro p hp
  (repeat' (first | (with_reducible refine i_ops ?_; first | (refine g_mv ?_; refine s_mv ?_) | refine o_nil ?_ | (refine g_some ?_; first | refine s_g_t ?_ | refine s_g_f ?_ | refine s_g_f' ?_ | refine s_g_u ?_) | (refine g_pick ?_; first | refine s_pick_t ?_ | refine s_pick_f ?_) | (refine g_idx ?_; first | (refine s_idxOB ?_; intro p hp hpw) | (refine s_idxB ?_; intro p hp)) | (refine g_pure ?_; first | refine s_eqDt ?_ | refine s_eqDf ?_ | refine s_pure ?_ | refine s_saddB ?_) | (refine g_hload ?_; refine s_hloadP ?_)) | (with_reducible refine i_vc ?_; first | refine v_seq ?_ | refine v_ops ?_ | (refine g_cond ?_; first | refine s_cond_t ?_ | refine s_cond_f ?_) | refine v_skip ?_ | refine v_ret ?_) | (with_reducible first | refine n_then ?_ | refine r_then ?_ | refine e_then ?_) | ((with_reducible first | refine s_g_c ?_ ?_ | refine s_cond_c ?_ ?_) <;> intro hb <;> rw [hb] <;> (try simp only [decide_eq_true_eq, decide_eq_false_iff_not, beq_iff_eq, bne_iff_ne, beq_eq_false_iff_ne, bne_eq_false_iff_eq, ne_eq, Int.not_lt, Int.not_le, gt_iff_lt, ge_iff_le, Bool.not_eq_true', Bool.not_eq_false'] at hb)) | ((with_reducible first | refine s_ret ?_ | refine s_normal ?_); try simp only [x_tup0, x_tup1, x_tup2, x_tup3, x_tup4, x_tup5, and_true, true_and])))
  refine o_callc (by with_unfolding_all rfl) (macP kw v5 key us5 ps G6 (lk.sl.le h36) l5'.parts (by omega) (small fl)) ?_
  rintro v G7 ⟨rfl, g7⟩
  (repeat' (first | (with_reducible refine i_ops ?_; first | (refine g_mv ?_; refine s_mv ?_) | refine o_nil ?_ | (refine g_some ?_; first | refine s_g_t ?_ | refine s_g_f ?_ | refine s_g_f' ?_ | refine s_g_u ?_) | (refine g_pick ?_; first | refine s_pick_t ?_ | refine s_pick_f ?_) | (refine g_idx ?_; first | (refine s_idxOB ?_; intro p hp hpw) | (refine s_idxB ?_; intro p hp)) | (refine g_pure ?_; first | refine s_eqDt ?_ | refine s_eqDf ?_ | refine s_pure ?_ | refine s_saddB ?_) | (refine g_hload ?_; refine s_hloadP ?_)) | (with_reducible refine i_vc ?_; first | refine v_seq ?_ | refine v_ops ?_ | (refine g_cond ?_; first | refine s_cond_t ?_ | refine s_cond_f ?_) | refine v_skip ?_ | refine v_ret ?_) | (with_reducible first | refine n_then ?_ | refine r_then ?_ | refine e_then ?_) | ((with_reducible first | refine s_g_c ?_ ?_ | refine s_cond_c ?_ ?_) <;> intro hb <;> rw [hb] <;> (try simp only [decide_eq_true_eq, decide_eq_false_iff_not, beq_iff_eq, bne_iff_ne, beq_eq_false_iff_ne, bne_eq_false_iff_eq, ne_eq, Int.not_lt, Int.not_le, gt_iff_lt, ge_iff_le, Bool.not_eq_true', Bool.not_eq_false'] at hb)) | ((with_reducible first | refine s_ret ?_ | refine s_normal ?_); try simp only [x_tup0, x_tup1, x_tup2, x_tup3, x_tup4, x_tup5, and_true, true_and])))
  refine o_callc (by with_unfolding_all rfl) (joinedP u us ps G7 (hu.le (GH.le_trans h06 g7)) (by omega)) ?_
  rintro j2 G8 ⟨g8, o8⟩
  (repeat' (first | (with_reducible refine i_ops ?_; first | (refine g_mv ?_; refine s_mv ?_) | refine o_nil ?_ | (refine g_some ?_; first | refine s_g_t ?_ | refine s_g_f ?_ | refine s_g_f' ?_ | refine s_g_u ?_) | (refine g_pick ?_; first | refine s_pick_t ?_ | refine s_pick_f ?_) | (refine g_idx ?_; first | (refine s_idxOB ?_; intro p hp hpw) | (refine s_idxB ?_; intro p hp)) | (refine g_pure ?_; first | refine s_eqDt ?_ | refine s_eqDf ?_ | refine s_pure ?_ | refine s_saddB ?_) | (refine g_hload ?_; refine s_hloadP ?_)) | (with_reducible refine i_vc ?_; first | refine v_seq ?_ | refine v_ops ?_ | (refine g_cond ?_; first | refine s_cond_t ?_ | refine s_cond_f ?_) | refine v_skip ?_ | refine v_ret ?_) | (with_reducible first | refine n_then ?_ | refine r_then ?_ | refine e_then ?_) | ((with_reducible first | refine s_g_c ?_ ?_ | refine s_cond_c ?_ ?_) <;> intro hb <;> rw [hb] <;> (try simp only [decide_eq_true_eq, decide_eq_false_iff_not, beq_iff_eq, bne_iff_ne, beq_eq_false_iff_ne, bne_eq_false_iff_eq, ne_eq, Int.not_lt, Int.not_le, gt_iff_lt, ge_iff_le, Bool.not_eq_true', Bool.not_eq_false'] at hb)) | ((with_reducible first | refine s_ret ?_ | refine s_normal ?_); try simp only [x_tup0, x_tup1, x_tup2, x_tup3, x_tup4, x_tup5, and_true, true_and])))
  refine o_callc (by with_unfolding_all rfl) (rmac _ j2 key ps.flatten G8 (Sl.le hk (GH.le_trans (GH.le_trans h06 g7) g8)) o8.sl (by omega) (by omega)) ?_
  rintro v G9 ⟨rfl, g9⟩
  have h69 := GH.le_trans g7 (GH.le_trans g8 g9)
  clear g7 g8 g9 o8
  have h09 := GH.le_trans h06 h69
  (repeat' (first | (with_reducible refine i_ops ?_; first | (refine g_mv ?_; refine s_mv ?_) | refine o_nil ?_ | (refine g_some ?_; first | refine s_g_t ?_ | refine s_g_f ?_ | refine s_g_f' ?_ | refine s_g_u ?_) | (refine g_pick ?_; first | refine s_pick_t ?_ | refine s_pick_f ?_) | (refine g_idx ?_; first | (refine s_idxOB ?_; intro p hp hpw) | (refine s_idxB ?_; intro p hp)) | (refine g_pure ?_; first | refine s_eqDt ?_ | refine s_eqDf ?_ | refine s_pure ?_ | refine s_saddB ?_) | (refine g_hload ?_; refine s_hloadP ?_)) | (with_reducible refine i_vc ?_; first | refine v_seq ?_ | refine v_ops ?_ | (refine g_cond ?_; first | refine s_cond_t ?_ | refine s_cond_f ?_) | refine v_skip ?_ | refine v_ret ?_) | (with_reducible first | refine n_then ?_ | refine r_then ?_ | refine e_then ?_) | ((with_reducible first | refine s_g_c ?_ ?_ | refine s_cond_c ?_ ?_) <;> intro hb <;> rw [hb] <;> (try simp only [decide_eq_true_eq, decide_eq_false_iff_not, beq_iff_eq, bne_iff_ne, beq_eq_false_iff_ne, bne_eq_false_iff_eq, ne_eq, Int.not_lt, Int.not_le, gt_iff_lt, ge_iff_le, Bool.not_eq_true', Bool.not_eq_false'] at hb)) | ((with_reducible first | refine s_ret ?_ | refine s_normal ?_); try simp only [x_tup0, x_tup1, x_tup2, x_tup3, x_tup4, x_tup5, and_true, true_and])))
  refine o_callc (by with_unfolding_all rfl) (keptP v5 u us5 us ps G G9 (l5'.le h69) (hu.le h09) hm1) ?_
  rintro v G10 ⟨rfl, rfl⟩
  (repeat' (first | (with_reducible refine i_ops ?_; first | (refine g_mv ?_; refine s_mv ?_) | refine o_nil ?_ | (refine g_some ?_; first | refine s_g_t ?_ | refine s_g_f ?_ | refine s_g_f' ?_ | refine s_g_u ?_) | (refine g_pick ?_; first | refine s_pick_t ?_ | refine s_pick_f ?_) | (refine g_idx ?_; first | (refine s_idxOB ?_; intro p hp hpw) | (refine s_idxB ?_; intro p hp)) | (refine g_pure ?_; first | refine s_eqDt ?_ | refine s_eqDf ?_ | refine s_pure ?_ | refine s_saddB ?_) | (refine g_hload ?_; refine s_hloadP ?_)) | (with_reducible refine i_vc ?_; first | refine v_seq ?_ | refine v_ops ?_ | (refine g_cond ?_; first | refine s_cond_t ?_ | refine s_cond_f ?_) | refine v_skip ?_ | refine v_ret ?_) | (with_reducible first | refine n_then ?_ | refine r_then ?_ | refine e_then ?_) | ((with_reducible first | refine s_g_c ?_ ?_ | refine s_cond_c ?_ ?_) <;> intro hb <;> rw [hb] <;> (try simp only [decide_eq_true_eq, decide_eq_false_iff_not, beq_iff_eq, bne_iff_ne, beq_eq_false_iff_ne, bne_eq_false_iff_eq, ne_eq, Int.not_lt, Int.not_le, gt_iff_lt, ge_iff_le, Bool.not_eq_true', Bool.not_eq_false'] at hb)) | ((with_reducible first | refine s_ret ?_ | refine s_normal ?_); try simp only [x_tup0, x_tup1, x_tup2, x_tup3, x_tup4, x_tup5, and_true, true_and])))
  refine o_bsliceO (vs := [.slice ka kn kc]) (by with_unfolding_all rfl) rfl rfl rfl rfl rfl ?_
  intro w2 G11 g11 o11 _
  have hP2 := one_partsB (Sl.le hk (GH.le_trans h09 g11)) o11
  have hm2 : ∀ i (h : i < [key].length), [key][i].length ≤ 140737488355328 := fun i hi => by
    have : i = 0 := by simpa using hi
    subst this
    simp only [List.getElem_cons_zero]; omega
  (repeat' (first | (with_reducible refine i_ops ?_; first | (refine g_mv ?_; refine s_mv ?_) | refine o_nil ?_ | (refine g_some ?_; first | refine s_g_t ?_ | refine s_g_f ?_ | refine s_g_f' ?_ | refine s_g_u ?_) | (refine g_pick ?_; first | refine s_pick_t ?_ | refine s_pick_f ?_) | (refine g_idx ?_; first | (refine s_idxOB ?_; intro p hp hpw) | (refine s_idxB ?_; intro p hp)) | (refine g_pure ?_; first | refine s_eqDt ?_ | refine s_eqDf ?_ | refine s_pure ?_ | refine s_saddB ?_) | (refine g_hload ?_; refine s_hloadP ?_)) | (with_reducible refine i_vc ?_; first | refine v_seq ?_ | refine v_ops ?_ | (refine g_cond ?_; first | refine s_cond_t ?_ | refine s_cond_f ?_) | refine v_skip ?_ | refine v_ret ?_) | (with_reducible first | refine n_then ?_ | refine r_then ?_ | refine e_then ?_) | ((with_reducible first | refine s_g_c ?_ ?_ | refine s_cond_c ?_ ?_) <;> intro hb <;> rw [hb] <;> (try simp only [decide_eq_true_eq, decide_eq_false_iff_not, beq_iff_eq, bne_iff_ne, beq_eq_false_iff_ne, bne_eq_false_iff_eq, ne_eq, Int.not_lt, Int.not_le, gt_iff_lt, ge_iff_le, Bool.not_eq_true', Bool.not_eq_false'] at hb)) | ((with_reducible first | refine s_ret ?_ | refine s_normal ?_); try simp only [x_tup0, x_tup1, x_tup2, x_tup3, x_tup4, x_tup5, and_true, true_and])))
  refine o_callc (by with_unfolding_all rfl) (keptP v6 w2 us6 _ [key] G2 G11 (l6'.le (GH.le_trans h69 g11)) hP2 hm2) ?_
  rintro v G12 ⟨rfl, rfl⟩
  (repeat' (first | (with_reducible refine i_ops ?_; first | (refine g_mv ?_; refine s_mv ?_) | refine o_nil ?_ | (refine g_some ?_; first | refine s_g_t ?_ | refine s_g_f ?_ | refine s_g_f' ?_ | refine s_g_u ?_) | (refine g_pick ?_; first | refine s_pick_t ?_ | refine s_pick_f ?_) | (refine g_idx ?_; first | (refine s_idxOB ?_; intro p hp hpw) | (refine s_idxB ?_; intro p hp)) | (refine g_pure ?_; first | refine s_eqDt ?_ | refine s_eqDf ?_ | refine s_pure ?_ | refine s_saddB ?_) | (refine g_hload ?_; refine s_hloadP ?_)) | (with_reducible refine i_vc ?_; first | refine v_seq ?_ | refine v_ops ?_ | (refine g_cond ?_; first | refine s_cond_t ?_ | refine s_cond_f ?_) | refine v_skip ?_ | refine v_ret ?_) | (with_reducible first | refine n_then ?_ | refine r_then ?_ | refine e_then ?_) | ((with_reducible first | refine s_g_c ?_ ?_ | refine s_cond_c ?_ ?_) <;> intro hb <;> rw [hb] <;> (try simp only [decide_eq_true_eq, decide_eq_false_iff_not, beq_iff_eq, bne_iff_ne, beq_eq_false_iff_ne, bne_eq_false_iff_eq, ne_eq, Int.not_lt, Int.not_le, gt_iff_lt, ge_iff_le, Bool.not_eq_true', Bool.not_eq_false'] at hb)) | ((with_reducible first | refine s_ret ?_ | refine s_normal ?_); try simp only [x_tup0, x_tup1, x_tup2, x_tup3, x_tup4, x_tup5, and_true, true_and])))
  exact GH.le_trans h09 g11
theorem shaSums_walk {H : Type} {enc : TypeId × Value → H} {W : World} {base : Nat} {v0 v1 : Value} {d0 d1 : DataW H} {p0 p1 : List MemPlace}
    (hv0 : Value.okWide Try.prog W .any base 25 v0) (h0 : DataW.Trod enc Try.prog W 0 (fun _ => true) true 25 v0 d0 p0)
    (hv1 : Value.okWide Try.prog W .any base 48 v1) (h1 : DataW.Trod enc Try.prog W 0 (fun _ => true) true 48 v1 d1 p1)
    (hsz : (DataW.weightsEach Try.prog [25, 48] [d0, d1]).all (· ≤ reachBytes) = true) (hk : Rows.uptoBulkAll [d0, d1] ≤ 1048576) :
    HC Try.prog 6 #[v0, v1] (whole W) fun v G' => v = .bool true ∧ (whole W).le G' := by
  obtain ⟨key, hk0, hl0⟩ := top_bytesU Try.underlying25 Try.underlying5 (by kernel_rfl) hv0 h0 (by simp) hk
  obtain ⟨us, ps, hu, hl1, hl2⟩ := top_partsU Try.underlying48 Try.underlying25 Try.underlying5 (by kernel_rfl) (by kernel_rfl) hv1 h1 (by simp) hk
  exact sumsP v0 v1 key us ps _ hk0 hu hl0 hl1 hl2
end Go.Proofs.Ytbpjjhbkahinjaa.V
