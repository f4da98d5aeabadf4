/- The document's rows of elements. -/
import Derived.Test.YtkidjjnmdpbcaaaPaT
import Derived.Test.YtkidjjnmdpbcaaaPaD
set_option linter.unusedSimpArgs false
set_option linter.unusedVariables false
namespace Go.Proofs.Ytkidjjnmdpbcaaa.V
open Go.RowKit Go.ChangeShapes Go.WideShapes
/-- Slips in memory, one behind the other. -/
def RowsL (G : GH) (bs : List UInt8) (k : Nat) (xs : List Value) : Prop := xs.length = 2 * k ∧ ∀ i, i < k → ∃ w, (xs.drop (i * 2)).take 2 = [.int .i64 (rowK bs i), w] ∧ By G w (rowD bs i)
theorem RowsL.le {G G' : GH} {bs : List UInt8} {k : Nat} {xs : List Value} (h : RowsL G bs k xs) (hl : G.le G') : RowsL G' bs k xs :=
  ⟨h.1, fun i hi => let ⟨w, h1, h2⟩ := h.2 i hi; ⟨w, h1, Sl.le h2 hl⟩⟩
theorem RowsL.snoc {G : GH} {bs : List UInt8} {k : Nat} {xs : List Value} {w : Value} (h : RowsL G bs k xs) (hw : By G w (rowD bs k)) : RowsL G bs (k + 1) (xs ++ [.int .i64 (rowK bs k), w]) := by
  obtain ⟨h1, h2⟩ := h
  refine ⟨by simp [h1]; omega, fun i hi => ?_⟩
  by_cases e : i = k
  · subst e
    refine ⟨w, ?_, hw⟩
    rw [List.drop_append, List.drop_eq_nil_of_le (by omega), h1, show i * 2 - 2 * i = 0 by omega]; rfl
  · obtain ⟨w', e1, e2⟩ := h2 i (by omega)
    refine ⟨w', ?_, e2⟩
    rw [List.drop_append_of_le_length (by omega), List.take_append_of_le_length (by rw [List.length_drop]; omega)]; exact e1
def posL (bs : List UInt8) (k : Nat) : List Value := (List.range k).map fun i => Value.int .i64 (pos bs i)
theorem posL_succ (bs : List UInt8) (k : Nat) : posL bs (k + 1) = posL bs k ++ [.int .i64 (pos bs k)] := by simp [posL, List.range_succ]
theorem posL_len (bs : List UInt8) (k : Nat) : (posL bs k).length = k := by simp [posL]
theorem row30 (u : Value) (bs : List UInt8) (G : GH) (h : By G u bs) (hl : bs.length ≤ 1048576) : HC Try.prog 30 #[u] G fun v G' => ∃ l p xs, v = .tuple #[l, p, .int .i64 (rowE bs), .int .i64 (rowB bs)] ∧ G.le G' ∧ Sl 2 G' l xs ∧ RowsL G' bs (rowN bs) xs ∧ Sl 1 G' p (posL bs (rowN bs)) := by
  obtain ⟨ua, un, uc, rfl⟩ := h.shape
  refine HC.start comp30 rfl ?_; unfold pc30
  (repeat' (first | (with_reducible refine i_ops ?_; first | (refine g_mv ?_; refine s_mv ?_) | refine o_nil ?_ | (refine g_len ?_; first | refine s_lenB ?_ | refine s_pure ?_) | (refine g_slc ?_; ((first | refine s_slcB ?_ | refine s_slcB01 ?_ | refine s_slcB10 ?_); intro us hus hbs)) | (refine g_pure ?_; first | refine s_pure ?_ | refine s_saddB ?_) | (refine g_lload ?_; refine s_lload ?_) | (refine g_lstore ?_; first | refine s_lstoreA ?_ | refine s_lstore ?_) | (refine g_lalloc ?_; refine s_lalloc ?_)) | (with_reducible refine i_vc ?_; first | refine v_seq ?_ | refine v_ops ?_ | (refine g_cond ?_; first | refine s_cond_t ?_ | refine s_cond_f ?_) | refine v_block ?_ | refine v_skip ?_ | refine v_exit ?_ | refine v_ret ?_) | (with_reducible first | refine n_then ?_ | refine r_then ?_ | refine e_then ?_ | refine n_block ?_ | refine r_block ?_ | refine e_block_eq (by with_unfolding_all rfl) ?_ | refine e_block_ne (by with_unfolding_all rfl) ?_) | ((with_reducible first | refine s_cond_c ?_ ?_) <;> intro hb <;> rw [hb] <;> (try simp only [decide_eq_true_eq, decide_eq_false_iff_not, beq_iff_eq, bne_iff_ne, beq_eq_false_iff_ne, bne_eq_false_iff_eq, ne_eq, Int.not_lt, Int.not_le, gt_iff_lt, ge_iff_le, Bool.not_eq_true', Bool.not_eq_false'] at hb)) | ((with_reducible first | refine s_ret ?_ | refine s_normal ?_); try simp only [x_tup0, x_tup1, x_tup2, x_tup3, x_tup4, x_tup5, and_true, true_and])))
  refine v_loopX (α := Nat × Value × Value × List Value × GH × GH) (fun q => q.1 ≤ rowN bs ∧ Two 2 1 G q.2.2.2.2.1 q.2.2.2.2.2 q.2.1 q.2.2.1 q.2.2.2.1 (posL bs q.1) ∧ RowsL q.2.2.2.2.2 bs q.1 q.2.2.2.1) (fun q => [(0, .slice ua un uc), (6, q.2.1), (7, q.2.2.1), (8, .int .i64 (pos bs q.1))]) (fun _ => []) (fun q => q.2.2.2.2.1) (fun q => rowN bs - q.1) (0, .slice none 0 0, .slice none 0 0, [], G, G)
    ⟨Nat.zero_le _, Two.nil 2 1 G, rfl, fun i hi => absurd hi (Nat.not_lt_zero _)⟩ (by refine ⟨SL.get_fn (by with_unfolding_all rfl), SL.get_fn (by with_unfolding_all rfl), SL.get_fn (by with_unfolding_all rfl), SL.get_fn (by with_unfolding_all rfl), trivial⟩) trivial rfl ?_
  rintro ⟨k, l, p, xs, H, B⟩ s ll ⟨k1, k2, k3⟩
  dsimp only at k1 k2 k3
  dsimp only [SL.sets, AL.sets]
  have hBH : B.le H := by rw [k2.1]; exact GH.le_trans (offb_le _ _) (offb_le _ _)
  have hGH : G.le H := GH.le_trans k2.2.1 hBH
  have hu : By H (.slice ua un uc) bs := Sl.le h hGH
  have end_ : ¬ okA bs k → k = rowN bs := fun h => by
    rcases Nat.lt_or_ge k (rowN bs) with h1 | h1
    · exact absurd (rowN_ok h1) h
    · omega
  have hNl := rowN_le bs
  have hpl := pos_le k1
  have ol := k2.2.2.1
  have op := k2.2.2.2.1
  have lenl : lenS l = k := by have := ol.sl.len; rw [k3.1] at this; omega
  have lenp : lenS p = k := by have := op.sl.len; rw [posL_len] at this; omega
  have e1 : rowE bs = pos bs (rowN bs) := rfl
  (repeat' (first | (with_reducible refine i_ops ?_; first | (refine g_mv ?_; refine s_mv ?_) | refine o_nil ?_ | (refine g_len ?_; first | refine s_lenB ?_ | refine s_pure ?_) | (refine g_slc ?_; ((first | refine s_slcB ?_ | refine s_slcB01 ?_ | refine s_slcB10 ?_); intro us hus hbs)) | (refine g_pure ?_; first | refine s_pure ?_ | refine s_saddB ?_) | (refine g_lload ?_; refine s_lload ?_) | (refine g_lstore ?_; first | refine s_lstoreA ?_ | refine s_lstore ?_) | (refine g_lalloc ?_; refine s_lalloc ?_)) | (with_reducible refine i_vc ?_; first | refine v_seq ?_ | refine v_ops ?_ | (refine g_cond ?_; first | refine s_cond_t ?_ | refine s_cond_f ?_) | refine v_block ?_ | refine v_skip ?_ | refine v_exit ?_ | refine v_ret ?_) | (with_reducible first | refine n_then ?_ | refine r_then ?_ | refine e_then ?_ | refine n_block ?_ | refine r_block ?_ | refine e_block_eq (by with_unfolding_all rfl) ?_ | refine e_block_ne (by with_unfolding_all rfl) ?_) | ((with_reducible first | refine s_cond_c ?_ ?_) <;> intro hb <;> rw [hb] <;> (try simp only [decide_eq_true_eq, decide_eq_false_iff_not, beq_iff_eq, bne_iff_ne, beq_eq_false_iff_ne, bne_eq_false_iff_eq, ne_eq, Int.not_lt, Int.not_le, gt_iff_lt, ge_iff_le, Bool.not_eq_true', Bool.not_eq_false'] at hb)) | ((with_reducible first | refine s_ret ?_ | refine s_normal ?_); try simp only [x_tup0, x_tup1, x_tup2, x_tup3, x_tup4, x_tup5, and_true, true_and])))
  · rw [Int.toNat_natCast] at hus
    refine o_callc (by with_unfolding_all rfl) (takeR21 us (bs.drop (pos bs k)) H hus) ?_
    rintro v H1 ⟨hle, ⟨he, rfl⟩ | ⟨he, w2, hw2, rfl⟩⟩
    · (repeat' (first | (with_reducible refine i_ops ?_; first | (refine g_mv ?_; refine s_mv ?_) | refine o_nil ?_ | (refine g_len ?_; first | refine s_lenB ?_ | refine s_pure ?_) | (refine g_slc ?_; ((first | refine s_slcB ?_ | refine s_slcB01 ?_ | refine s_slcB10 ?_); intro us hus hbs)) | (refine g_pure ?_; first | refine s_pure ?_ | refine s_saddB ?_) | (refine g_lload ?_; refine s_lload ?_) | (refine g_lstore ?_; first | refine s_lstoreA ?_ | refine s_lstore ?_) | (refine g_lalloc ?_; refine s_lalloc ?_)) | (with_reducible refine i_vc ?_; first | refine v_seq ?_ | refine v_ops ?_ | (refine g_cond ?_; first | refine s_cond_t ?_ | refine s_cond_f ?_) | refine v_block ?_ | refine v_skip ?_ | refine v_exit ?_ | refine v_ret ?_) | (with_reducible first | refine n_then ?_ | refine r_then ?_ | refine e_then ?_ | refine n_block ?_ | refine r_block ?_ | refine e_block_eq (by with_unfolding_all rfl) ?_ | refine e_block_ne (by with_unfolding_all rfl) ?_) | ((with_reducible first | refine s_cond_c ?_ ?_) <;> intro hb <;> rw [hb] <;> (try simp only [decide_eq_true_eq, decide_eq_false_iff_not, beq_iff_eq, bne_iff_ne, beq_eq_false_iff_ne, bne_eq_false_iff_eq, ne_eq, Int.not_lt, Int.not_le, gt_iff_lt, ge_iff_le, Bool.not_eq_true', Bool.not_eq_false'] at hb)) | ((with_reducible first | refine s_ret ?_ | refine s_normal ?_); try simp only [x_tup0, x_tup1, x_tup2, x_tup3, x_tup4, x_tup5, and_true, true_and])))
      · have e := end_ fun h => he h.2
        subst e
        have e2 : rowB bs = tkE (bs.drop (pos bs (rowN bs))) := by unfold rowB; rw [e1, if_neg (by omega)]
        refine ⟨l, p, xs, by rw [e2, e1], GH.le_trans hGH hle, (ol.le hle).sl, k3.le (GH.le_trans hBH hle), (op.le hle).sl⟩
      · exact absurd hb he
    · obtain ⟨xa, xn, xc, rfl⟩ := hw2.sl.shape
      have hok : okA bs k := ⟨by omega, he⟩
      have hle2 := ok_len hok
      have hk : k < rowN bs := by
        rcases Nat.lt_or_ge k (rowN bs) with h1 | h1
        · exact h1
        · have : k = rowN bs := by omega
          subst this; exact absurd hok (rowN_no bs)
      have hpe := pos_nxt hok
      obtain ⟨m2, mB⟩ := k2.le hle
      have hwB : By (offb l (offb p H1)) (.slice xa xn xc) (rowD bs k) := k2.new hle hw2
      (repeat' (first | (with_reducible refine i_ops ?_; first | (refine g_mv ?_; refine s_mv ?_) | refine o_nil ?_ | (refine g_len ?_; first | refine s_lenB ?_ | refine s_pure ?_) | (refine g_slc ?_; ((first | refine s_slcB ?_ | refine s_slcB01 ?_ | refine s_slcB10 ?_); intro us hus hbs)) | (refine g_pure ?_; first | refine s_pure ?_ | refine s_saddB ?_) | (refine g_lload ?_; refine s_lload ?_) | (refine g_lstore ?_; first | refine s_lstoreA ?_ | refine s_lstore ?_) | (refine g_lalloc ?_; refine s_lalloc ?_)) | (with_reducible refine i_vc ?_; first | refine v_seq ?_ | refine v_ops ?_ | (refine g_cond ?_; first | refine s_cond_t ?_ | refine s_cond_f ?_) | refine v_block ?_ | refine v_skip ?_ | refine v_exit ?_ | refine v_ret ?_) | (with_reducible first | refine n_then ?_ | refine r_then ?_ | refine e_then ?_ | refine n_block ?_ | refine r_block ?_ | refine e_block_eq (by with_unfolding_all rfl) ?_ | refine e_block_ne (by with_unfolding_all rfl) ?_) | ((with_reducible first | refine s_cond_c ?_ ?_) <;> intro hb <;> rw [hb] <;> (try simp only [decide_eq_true_eq, decide_eq_false_iff_not, beq_iff_eq, bne_iff_ne, beq_eq_false_iff_ne, bne_eq_false_iff_eq, ne_eq, Int.not_lt, Int.not_le, gt_iff_lt, ge_iff_le, Bool.not_eq_true', Bool.not_eq_false'] at hb)) | ((with_reducible first | refine s_ret ?_ | refine s_normal ?_); try simp only [x_tup0, x_tup1, x_tup2, x_tup3, x_tup4, x_tup5, and_true, true_and])))
      refine o_bslice (cs := #[.int .i64 (rowK bs k), .slice xa xn xc]) (by with_unfolding_all rfl) rfl ?_
      intro b hb
      have o1 : Own 2 H1 (H1.put b (.cells #[.int .i64 (rowK bs k), .slice xa xn xc] 40)) (.slice (some ⟨b, 0, none⟩) 1 1) [.int .i64 (rowK bs k), .slice xa xn xc] := .inr ⟨b, [], hb, OwnB.fresh rfl rfl (Nat.le_refl _) (by decide) (by simp)⟩
      have g2 : H1.le (H1.put b (.cells #[.int .i64 (rowK bs k), .slice xa xn xc] 40)) := GH.le_put _ hb
      generalize H1.put b _ = H2 at o1 g2 ⊢
      obtain ⟨n2, nB⟩ := m2.le g2
      refine o_appendO (by with_unfolding_all rfl) (by with_unfolding_all rfl) n2.2.2.1 o1.sl rfl rfl (GH.le_trans hGH (GH.le_trans hle g2)) (by rw [lenl]; simp only [lenS]; omega) ?_
      intro l' H3 a1 a2 a3 a4 a5
      obtain ⟨q2, qB⟩ := n2.fst a1 a2 a4 a5
      (repeat' (first | (with_reducible refine i_ops ?_; first | (refine g_mv ?_; refine s_mv ?_) | refine o_nil ?_ | (refine g_len ?_; first | refine s_lenB ?_ | refine s_pure ?_) | (refine g_slc ?_; ((first | refine s_slcB ?_ | refine s_slcB01 ?_ | refine s_slcB10 ?_); intro us hus hbs)) | (refine g_pure ?_; first | refine s_pure ?_ | refine s_saddB ?_) | (refine g_lload ?_; refine s_lload ?_) | (refine g_lstore ?_; first | refine s_lstoreA ?_ | refine s_lstore ?_) | (refine g_lalloc ?_; refine s_lalloc ?_)) | (with_reducible refine i_vc ?_; first | refine v_seq ?_ | refine v_ops ?_ | (refine g_cond ?_; first | refine s_cond_t ?_ | refine s_cond_f ?_) | refine v_block ?_ | refine v_skip ?_ | refine v_exit ?_ | refine v_ret ?_) | (with_reducible first | refine n_then ?_ | refine r_then ?_ | refine e_then ?_ | refine n_block ?_ | refine r_block ?_ | refine e_block_eq (by with_unfolding_all rfl) ?_ | refine e_block_ne (by with_unfolding_all rfl) ?_) | ((with_reducible first | refine s_cond_c ?_ ?_) <;> intro hb <;> rw [hb] <;> (try simp only [decide_eq_true_eq, decide_eq_false_iff_not, beq_iff_eq, bne_iff_ne, beq_eq_false_iff_ne, bne_eq_false_iff_eq, ne_eq, Int.not_lt, Int.not_le, gt_iff_lt, ge_iff_le, Bool.not_eq_true', Bool.not_eq_false'] at hb)) | ((with_reducible first | refine s_ret ?_ | refine s_normal ?_); try simp only [x_tup0, x_tup1, x_tup2, x_tup3, x_tup4, x_tup5, and_true, true_and])))
      refine o_bsliceO (vs := [.int .i64 (pos bs k)]) (by with_unfolding_all rfl) rfl rfl rfl rfl rfl ?_
      intro v4 H4 g4 o4 n4
      obtain ⟨r2, rB⟩ := q2.le g4
      (repeat' (first | (with_reducible refine i_ops ?_; first | (refine g_mv ?_; refine s_mv ?_) | refine o_nil ?_ | (refine g_len ?_; first | refine s_lenB ?_ | refine s_pure ?_) | (refine g_slc ?_; ((first | refine s_slcB ?_ | refine s_slcB01 ?_ | refine s_slcB10 ?_); intro us hus hbs)) | (refine g_pure ?_; first | refine s_pure ?_ | refine s_saddB ?_) | (refine g_lload ?_; refine s_lload ?_) | (refine g_lstore ?_; first | refine s_lstoreA ?_ | refine s_lstore ?_) | (refine g_lalloc ?_; refine s_lalloc ?_)) | (with_reducible refine i_vc ?_; first | refine v_seq ?_ | refine v_ops ?_ | (refine g_cond ?_; first | refine s_cond_t ?_ | refine s_cond_f ?_) | refine v_block ?_ | refine v_skip ?_ | refine v_exit ?_ | refine v_ret ?_) | (with_reducible first | refine n_then ?_ | refine r_then ?_ | refine e_then ?_ | refine n_block ?_ | refine r_block ?_ | refine e_block_eq (by with_unfolding_all rfl) ?_ | refine e_block_ne (by with_unfolding_all rfl) ?_) | ((with_reducible first | refine s_cond_c ?_ ?_) <;> intro hb <;> rw [hb] <;> (try simp only [decide_eq_true_eq, decide_eq_false_iff_not, beq_iff_eq, bne_iff_ne, beq_eq_false_iff_ne, bne_eq_false_iff_eq, ne_eq, Int.not_lt, Int.not_le, gt_iff_lt, ge_iff_le, Bool.not_eq_true', Bool.not_eq_false'] at hb)) | ((with_reducible first | refine s_ret ?_ | refine s_normal ?_); try simp only [x_tup0, x_tup1, x_tup2, x_tup3, x_tup4, x_tup5, and_true, true_and])))
      refine o_appendO (by with_unfolding_all rfl) (by with_unfolding_all rfl) r2.2.2.2.1 o4.sl rfl rfl (GH.le_trans a1 g4) (by rw [lenp, n4]; omega) ?_
      intro p' H5 b1 b2 b3 b4 b5
      rw [← posL_succ] at b2
      obtain ⟨t2, tB⟩ := r2.snd b1 b2 b4 b5
      (repeat' (first | (with_reducible refine i_ops ?_; first | (refine g_mv ?_; refine s_mv ?_) | refine o_nil ?_ | (refine g_len ?_; first | refine s_lenB ?_ | refine s_pure ?_) | (refine g_slc ?_; ((first | refine s_slcB ?_ | refine s_slcB01 ?_ | refine s_slcB10 ?_); intro us hus hbs)) | (refine g_pure ?_; first | refine s_pure ?_ | refine s_saddB ?_) | (refine g_lload ?_; refine s_lload ?_) | (refine g_lstore ?_; first | refine s_lstoreA ?_ | refine s_lstore ?_) | (refine g_lalloc ?_; refine s_lalloc ?_)) | (with_reducible refine i_vc ?_; first | refine v_seq ?_ | refine v_ops ?_ | (refine g_cond ?_; first | refine s_cond_t ?_ | refine s_cond_f ?_) | refine v_block ?_ | refine v_skip ?_ | refine v_exit ?_ | refine v_ret ?_) | (with_reducible first | refine n_then ?_ | refine r_then ?_ | refine e_then ?_ | refine n_block ?_ | refine r_block ?_ | refine e_block_eq (by with_unfolding_all rfl) ?_ | refine e_block_ne (by with_unfolding_all rfl) ?_) | ((with_reducible first | refine s_cond_c ?_ ?_) <;> intro hb <;> rw [hb] <;> (try simp only [decide_eq_true_eq, decide_eq_false_iff_not, beq_iff_eq, bne_iff_ne, beq_eq_false_iff_ne, bne_eq_false_iff_eq, ne_eq, Int.not_lt, Int.not_le, gt_iff_lt, ge_iff_le, Bool.not_eq_true', Bool.not_eq_false'] at hb)) | ((with_reducible first | refine s_ret ?_ | refine s_normal ?_); try simp only [x_tup0, x_tup1, x_tup2, x_tup3, x_tup4, x_tup5, and_true, true_and])))
      exact ⟨rowN bs - (k + 1), by omega, (k + 1, l', p', _, H5, _), rfl, ⟨by dsimp only; omega, t2, (RowsL.snoc (k3.le mB) hwB).le (GH.le_trans nB (GH.le_trans qB (GH.le_trans rB tB)))⟩, ⟨SL.get_fn (by with_unfolding_all rfl), SL.get_fn (by with_unfolding_all rfl), SL.get_fn (by with_unfolding_all rfl), by rw [← hpe]; exact SL.get_fn (by with_unfolding_all rfl), trivial⟩, trivial, rfl⟩
  · have e := end_ fun h => by have := h.1; omega
    subst e
    have e2 : rowB bs = 0 := by unfold rowB; rw [e1, if_pos (by omega)]
    exact ⟨l, p, xs, by rw [e2, e1], hGH, ol.sl, k3.le hBH, op.sl⟩
end Go.Proofs.Ytkidjjnmdpbcaaa.V
