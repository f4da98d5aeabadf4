/- Elements all the way down, by the document. -/
import Derived.Test.YtkidjjnmdpbcaaaL
import Derived.Test.YtkidjjnmdpbcaaaD
set_option linter.unusedSimpArgs false
set_option linter.unusedVariables false
namespace Go.Proofs.Ytkidjjnmdpbcaaa.V
open Go.RowKit Go.ChangeShapes Go.WideShapes
def WR (deep : Int) (bs : List UInt8) (a depth : Int) (v : Value) : Prop :=
  ((chkOne deep bs.length depth bs).err ≠ 0 ∧ v = .tuple #[.int .i64 0, .int .i64 0, .int .i64 (a + (chkOne deep bs.length depth bs).pos), .int .i64 (chkOne deep bs.length depth bs).err]) ∨
  ((chkOne deep bs.length depth bs).err = 0 ∧ v = .tuple #[.int .i64 (chkOne deep bs.length depth bs).many, .int .i64 (nxt bs), .int .i64 0, .int .i64 0])
/-- What the elements from a place on say of all. -/
def Rest (T R : Chk) (k acc : Int) : Prop := (R.err ≠ 0 → T.err = R.err ∧ T.pos = k + R.pos) ∧ (R.err = 0 → T.err = 0 ∧ T.many = acc + R.many)
theorem Rest.step {deep depth : Int} {f : Nat} {c : List UInt8} {k : Nat} {acc : Int} {T : Chk} (h : Rest T (chkAll deep f depth (c.drop k)) k acc) (hf : c.length ≤ f) (hk : k < c.length) :
    ((chkOne deep f depth (c.drop k)).err ≠ 0 → T.err = (chkOne deep f depth (c.drop k)).err ∧ T.pos = k + (chkOne deep f depth (c.drop k)).pos) ∧
    ((chkOne deep f depth (c.drop k)).err = 0 → Rest T (chkAll deep f depth (c.drop (k + (nxt (c.drop k)).toNat))) (k + (nxt (c.drop k)).toNat) (acc + (chkOne deep f depth (c.drop k)).many)) := by
  have hne : c.drop k ≠ [] := fun e => by
    have := congrArg List.length e
    rw [List.length_drop] at this; simp at this; omega
  rw [chkAll_step deep f depth (c.drop k) (by rw [List.length_drop]; omega) hne, List.drop_drop] at h
  constructor
  · intro he
    rw [if_pos he] at h
    exact h.1 he
  · intro he
    have he' : ¬ (chkOne deep f depth (c.drop k)).err ≠ 0 := not_not_intro he
    rw [if_neg he'] at h
    constructor
    · intro hr
      rw [if_pos hr] at h
      have := h.1 hr
      refine ⟨this.1, ?_⟩
      have h0 : 0 ≤ nxt (c.drop k) := by
        unfold chkOne at he
        split at he
        · simp at he
        split at he
        · rename_i q; exact absurd he q
        rename_i q
        have := tk_bounds (bs := c.drop k) (by
          by_cases z : tkE (c.drop k) = 0
          · exact z
          · exact absurd z q)
        unfold nxt; omega
      have h2 := this.2
      dsimp only at h2
      omega
    · intro hr
      have hr' : ¬ (chkAll deep f depth (c.drop (k + (nxt (c.drop k)).toNat))).err ≠ 0 := not_not_intro hr
      rw [if_neg hr'] at h
      have := h.2 rfl
      refine ⟨this.1, ?_⟩
      have h2 := this.2
      dsimp only at h2
      omega
theorem one_ok {deep depth : Int} {f : Nat} {bs : List UInt8} (h : (chkOne deep f depth bs).err = 0) : tkE bs = 0 ∧ 1 ≤ (chkOne deep f depth bs).many ∧ (chkOne deep f depth bs).many ≤ nxt bs := by
  unfold chkOne at h ⊢
  split at h
  · simp at h
  rename_i e; rw [if_neg e]
  split at h
  · rename_i q; exact absurd h q
  rename_i q; rw [if_neg q]
  have e3 : tkE bs = 0 := by
    by_cases z : tkE bs = 0
    · exact z
    · exact absurd z q
  obtain ⟨f1, f2, n1, n2, nx, hl, tg⟩ := tk_bounds e3
  refine ⟨e3, ?_⟩
  have hi : (if inD bs then chkAll deep f (depth + 1) (tkC bs) else ⟨0, 0, 0⟩ : Chk).err = 0 → 0 ≤ (if inD bs then chkAll deep f (depth + 1) (tkC bs) else ⟨0, 0, 0⟩ : Chk).many ∧ (if inD bs then chkAll deep f (depth + 1) (tkC bs) else ⟨0, 0, 0⟩ : Chk).many ≤ hdrN bs := by
    intro he
    by_cases kd : inD bs
    · rw [if_pos kd] at he ⊢
      have := chkAll_err deep f (depth + 1) (tkC bs) he
      omega
    · rw [if_neg kd]; exact ⟨Int.le_refl _, n1⟩
  generalize (if inD bs then chkAll deep f (depth + 1) (tkC bs) else ⟨0, 0, 0⟩ : Chk) = i at *
  unfold oneC at h ⊢
  split at h
  · rename_i q2; exact absurd h q2
  rename_i q2; rw [if_neg q2]
  have i0 : i.err = 0 := by
    by_cases k : i.err = 0
    · exact k
    · exact absurd k q2
  have a1 := hi i0
  dsimp only; unfold nxt; omega
set_option maxHeartbeats 2000000 in
theorem within43 (deep : Int) (hd0 : 0 ≤ deep) (hd1 : deep ≤ 64) : ∀ (n : Nat) (bs : List UInt8), bs.length < n → ∀ (u : Value) (a depth : Int) (G : GH), By G u bs → 0 ≤ a → a + bs.length ≤ 1152921504606846976 → 0 ≤ depth → depth ≤ 65 →
    HC Try.prog 43 #[u, .int .i64 a, .int .i64 depth, .int .i64 deep] G fun v G' => G.le G' ∧ WR deep bs a depth v := by
  intro n
  induction n with
  | zero => intro bs h; omega
  | succ n ih =>
    intro bs hn u a depth G h a0 a1 p0 p1
    refine HC.start comp43 rfl ?_; unfold pc43
    (repeat' (first | (with_reducible refine i_ops ?_; first | (refine g_mv ?_; refine s_mv ?_) | refine o_nil ?_ | (refine g_some ?_; first | refine s_g_t ?_ | refine s_g_f ?_ | refine s_g_f' ?_ | refine s_g_u ?_) | (refine g_pick ?_; first | refine s_pick_t ?_ | refine s_pick_f ?_) | (refine g_len ?_; first | refine s_lenB ?_ | refine s_pure ?_) | (refine g_idx ?_; first | (refine s_idxOB ?_; intro p hp hpw) | (refine s_idxB ?_; intro p hp)) | (refine g_slc ?_; ((first | refine s_slcB ?_ | refine s_slcB01 ?_ | refine s_slcB10 ?_); intro us hus hbs)) | (refine g_build ?_; first | refine s_build ?_ | refine s_buildP ?_) | (refine g_pure ?_; first | refine s_pure ?_ | refine s_saddB ?_) | (refine g_lfield ?_; refine s_lfield ?_) | (refine g_lload ?_; refine s_lload ?_) | (refine g_lstore ?_; first | refine s_lstoreA ?_ | refine s_lstore ?_) | (refine g_lindex ?_; refine s_lindex ?_) | (refine g_lalloc ?_; refine s_lalloc ?_) | (refine g_lbox ?_; refine s_lbox ?_) | (refine g_lmove ?_; refine s_lmove ?_) | (refine g_hload ?_; refine s_hloadP ?_) | (refine g_hstore ?_; (refine s_hstoreB ?_; intro G' hle ho hkp)) | (refine g_b2s ?_; refine s_b2sB ?_)) | (with_reducible refine i_vc ?_; first | refine v_seq ?_ | refine v_ops ?_ | (refine g_cond ?_; first | refine s_cond_t ?_ | refine s_cond_f ?_) | refine v_block ?_ | refine v_skip ?_ | refine v_exit ?_ | refine v_ret ?_ | refine s_drawl ?_ | refine v_draw0 ?_ | refine v_scope ?_) | (with_reducible refine i_plan ?_; first | refine p_done ?_ | refine s_pre ?_ | refine s_preN ?_ | refine s_ag_t ?_ | refine s_ag_f ?_ | refine s_alt ?_ | refine p_alt ?_ ?_) | (with_reducible first | refine n_then ?_ | refine r_then ?_ | refine e_then ?_ | refine n_block ?_ | refine r_block ?_ | refine e_block_eq (by with_unfolding_all rfl) ?_ | refine e_block_ne (by with_unfolding_all rfl) ?_ | refine n_scope ?_ | refine r_scope ?_ | refine e_scope ?_ | (refine g_stand ?_; first | refine s_stand ?_ | refine s_standL ?_)) | ((with_reducible first | refine s_g_c ?_ ?_ | refine s_cond_c ?_ ?_ | refine s_tg_c ?_ ?_ | refine s_ag_c ?_ ?_) <;> intro hb <;> rw [hb] <;> (try simp only [decide_eq_true_eq, decide_eq_false_iff_not, beq_iff_eq, bne_iff_ne, beq_eq_false_iff_ne, bne_eq_false_iff_eq, ne_eq, Int.not_lt, Int.not_le, gt_iff_lt, ge_iff_le, Bool.not_eq_true', Bool.not_eq_false'] at hb)) | ((with_reducible first | refine s_ret ?_ | refine s_normal ?_); try simp only [x_tup0, x_tup1, x_tup2, x_tup3, x_tup4, x_tup5, and_true, true_and])))
    · have e : chkOne deep bs.length depth bs = ⟨0, 0, 14⟩ := by unfold chkOne; rw [if_pos hb]
      exact ⟨GH.le_refl _, .inl ⟨by rw [e]; decide, by rw [e, Int.add_zero]⟩⟩
    have hdep : ¬ depth > deep := by omega
    refine o_callc (by with_unfolding_all rfl) (takeR21 u bs G h) ?_
    rintro _ G1 ⟨hle1, ⟨he, rfl⟩ | ⟨he, w, hw, rfl⟩⟩
    · have e : chkOne deep bs.length depth bs = ⟨0, 0, tkE bs⟩ := by unfold chkOne; rw [if_neg hdep, if_pos he]
      have hT : WR deep bs a depth (.tuple #[.int .i64 0, .int .i64 0, .int .i64 a, .int .i64 (tkE bs)]) := .inl ⟨by rw [e]; exact he, by rw [e, Int.add_zero]⟩
      (repeat' (first | (with_reducible refine i_ops ?_; first | (refine g_mv ?_; refine s_mv ?_) | refine o_nil ?_ | (refine g_some ?_; first | refine s_g_t ?_ | refine s_g_f ?_ | refine s_g_f' ?_ | refine s_g_u ?_) | (refine g_pick ?_; first | refine s_pick_t ?_ | refine s_pick_f ?_) | (refine g_len ?_; first | refine s_lenB ?_ | refine s_pure ?_) | (refine g_idx ?_; first | (refine s_idxOB ?_; intro p hp hpw) | (refine s_idxB ?_; intro p hp)) | (refine g_slc ?_; ((first | refine s_slcB ?_ | refine s_slcB01 ?_ | refine s_slcB10 ?_); intro us hus hbs)) | (refine g_build ?_; first | refine s_build ?_ | refine s_buildP ?_) | (refine g_pure ?_; first | refine s_pure ?_ | refine s_saddB ?_) | (refine g_lfield ?_; refine s_lfield ?_) | (refine g_lload ?_; refine s_lload ?_) | (refine g_lstore ?_; first | refine s_lstoreA ?_ | refine s_lstore ?_) | (refine g_lindex ?_; refine s_lindex ?_) | (refine g_lalloc ?_; refine s_lalloc ?_) | (refine g_lbox ?_; refine s_lbox ?_) | (refine g_lmove ?_; refine s_lmove ?_) | (refine g_hload ?_; refine s_hloadP ?_) | (refine g_hstore ?_; (refine s_hstoreB ?_; intro G' hle ho hkp)) | (refine g_b2s ?_; refine s_b2sB ?_)) | (with_reducible refine i_vc ?_; first | refine v_seq ?_ | refine v_ops ?_ | (refine g_cond ?_; first | refine s_cond_t ?_ | refine s_cond_f ?_) | refine v_block ?_ | refine v_skip ?_ | refine v_exit ?_ | refine v_ret ?_ | refine s_drawl ?_ | refine v_draw0 ?_ | refine v_scope ?_) | (with_reducible refine i_plan ?_; first | refine p_done ?_ | refine s_pre ?_ | refine s_preN ?_ | refine s_ag_t ?_ | refine s_ag_f ?_ | refine s_alt ?_ | refine p_alt ?_ ?_) | (with_reducible first | refine n_then ?_ | refine r_then ?_ | refine e_then ?_ | refine n_block ?_ | refine r_block ?_ | refine e_block_eq (by with_unfolding_all rfl) ?_ | refine e_block_ne (by with_unfolding_all rfl) ?_ | refine n_scope ?_ | refine r_scope ?_ | refine e_scope ?_ | (refine g_stand ?_; first | refine s_stand ?_ | refine s_standL ?_)) | ((with_reducible first | refine s_g_c ?_ ?_ | refine s_cond_c ?_ ?_ | refine s_tg_c ?_ ?_ | refine s_ag_c ?_ ?_) <;> intro hb <;> rw [hb] <;> (try simp only [decide_eq_true_eq, decide_eq_false_iff_not, beq_iff_eq, bne_iff_ne, beq_eq_false_iff_ne, bne_eq_false_iff_eq, ne_eq, Int.not_lt, Int.not_le, gt_iff_lt, ge_iff_le, Bool.not_eq_true', Bool.not_eq_false'] at hb)) | ((with_reducible first | refine s_ret ?_ | refine s_normal ?_); try simp only [x_tup0, x_tup1, x_tup2, x_tup3, x_tup4, x_tup5, and_true, true_and])))
      all_goals first | exact ⟨hle1, hT⟩ | (exfalso; omega)
    obtain ⟨f1, f2, n1, n2, nx, hl, tg⟩ := tk_bounds he
    have he' : ¬ tkE bs ≠ 0 := not_not_intro he
    obtain ⟨aw, nw, cw, rfl⟩ := hw.shape
    obtain ⟨c, hc⟩ : ∃ c, tkC bs = c := ⟨_, rfl⟩
    rw [hc] at hw hl
    have hN : hdrF bs + hdrN bs = nxt bs := rfl
    rw [hN]
    have hcl : c.length < bs.length := by unfold nxt at nx; omega
    obtain rfl : nw = c.length := By.len hw.sl
    have nx2 : nxt bs = hdrF bs + c.length := by unfold nxt; omega
    have bw : By G1 _ c := hw.sl
    have hone : chkOne deep bs.length depth bs = oneC (hdrF bs) (if inD bs then chkAll deep c.length (depth + 1) c else ⟨0, 0, 0⟩) := by
      unfold chkOne
      rw [if_neg hdep, if_neg he', hc, chkAll_fuel deep bs.length c.length (depth + 1) c (by omega) (Nat.le_refl _)]
    clear hw hc
    (repeat' (first | (with_reducible refine i_ops ?_; first | (refine g_mv ?_; refine s_mv ?_) | refine o_nil ?_ | (refine g_some ?_; first | refine s_g_t ?_ | refine s_g_f ?_ | refine s_g_f' ?_ | refine s_g_u ?_) | (refine g_pick ?_; first | refine s_pick_t ?_ | refine s_pick_f ?_) | (refine g_len ?_; first | refine s_lenB ?_ | refine s_pure ?_) | (refine g_idx ?_; first | (refine s_idxOB ?_; intro p hp hpw) | (refine s_idxB ?_; intro p hp)) | (refine g_slc ?_; ((first | refine s_slcB ?_ | refine s_slcB01 ?_ | refine s_slcB10 ?_); intro us hus hbs)) | (refine g_build ?_; first | refine s_build ?_ | refine s_buildP ?_) | (refine g_pure ?_; first | refine s_pure ?_ | refine s_saddB ?_) | (refine g_lfield ?_; refine s_lfield ?_) | (refine g_lload ?_; refine s_lload ?_) | (refine g_lstore ?_; first | refine s_lstoreA ?_ | refine s_lstore ?_) | (refine g_lindex ?_; refine s_lindex ?_) | (refine g_lalloc ?_; refine s_lalloc ?_) | (refine g_lbox ?_; refine s_lbox ?_) | (refine g_lmove ?_; refine s_lmove ?_) | (refine g_hload ?_; refine s_hloadP ?_) | (refine g_hstore ?_; (refine s_hstoreB ?_; intro G' hle ho hkp)) | (refine g_b2s ?_; refine s_b2sB ?_)) | (with_reducible refine i_vc ?_; first | refine v_seq ?_ | refine v_ops ?_ | (refine g_cond ?_; first | refine s_cond_t ?_ | refine s_cond_f ?_) | refine v_block ?_ | refine v_skip ?_ | refine v_exit ?_ | refine v_ret ?_ | refine s_drawl ?_ | refine v_draw0 ?_ | refine v_scope ?_) | (with_reducible refine i_plan ?_; first | refine p_done ?_ | refine s_pre ?_ | refine s_preN ?_ | refine s_ag_t ?_ | refine s_ag_f ?_ | refine s_alt ?_ | refine p_alt ?_ ?_) | (with_reducible first | refine n_then ?_ | refine r_then ?_ | refine e_then ?_ | refine n_block ?_ | refine r_block ?_ | refine e_block_eq (by with_unfolding_all rfl) ?_ | refine e_block_ne (by with_unfolding_all rfl) ?_ | refine n_scope ?_ | refine r_scope ?_ | refine e_scope ?_ | (refine g_stand ?_; first | refine s_stand ?_ | refine s_standL ?_)) | ((with_reducible first | refine s_g_c ?_ ?_ | refine s_cond_c ?_ ?_ | refine s_tg_c ?_ ?_ | refine s_ag_c ?_ ?_) <;> intro hb <;> rw [hb] <;> (try simp only [decide_eq_true_eq, decide_eq_false_iff_not, beq_iff_eq, bne_iff_ne, beq_eq_false_iff_ne, bne_eq_false_iff_eq, ne_eq, Int.not_lt, Int.not_le, gt_iff_lt, ge_iff_le, Bool.not_eq_true', Bool.not_eq_false'] at hb)) | ((with_reducible first | refine s_ret ?_ | refine s_normal ?_); try simp only [x_tup0, x_tup1, x_tup2, x_tup3, x_tup4, x_tup5, and_true, true_and])))
    · have hin : inD bs := hb
      rw [if_pos hin] at hone
      generalize hTT : chkAll deep c.length (depth + 1) c = T at hone
      refine v_loopX (α := Nat × Int × GH) (fun x => x.1 ≤ c.length ∧ 1 ≤ x.2.1 ∧ x.2.1 ≤ 1 + x.1 ∧ G1.le x.2.2 ∧ Rest T (chkAll deep c.length (depth + 1) (c.drop x.1)) x.1 (x.2.1 - 1)) (fun x => [(1, .int .i64 a), (2, .int .i64 depth), (3, .int .i64 deep), (12, .int .u64 0), (13, .int .i64 (nxt bs)), (15, .int .i64 x.2.1), (16, .int .i64 x.1)]) (fun _ => [(12, #[.int .i64 (byt bs 0), .slice aw c.length cw])]) (fun x => x.2.2) (fun x => c.length - x.1) (0, 1, G1)
        ⟨Nat.zero_le _, by dsimp only; omega, by dsimp only; omega, GH.le_refl _, ?_⟩ (by refine ⟨SL.get_fn (by with_unfolding_all rfl), SL.get_fn (by with_unfolding_all rfl), SL.get_fn (by with_unfolding_all rfl), SL.get_fn (by with_unfolding_all rfl), SL.get_fn (by with_unfolding_all rfl), SL.get_fn (by with_unfolding_all rfl), SL.get_fn (by with_unfolding_all rfl), trivial⟩) (by exact ⟨AL.get_fn (by with_unfolding_all rfl), trivial⟩) rfl ?_
      · rw [List.drop_zero, hTT]
        exact ⟨fun h => ⟨rfl, by simp⟩, fun h => ⟨h, by simp⟩⟩
      rintro ⟨k, m, G2⟩ s ll ⟨k1, k2, k3, k4, k5⟩
      dsimp only at k1 k2 k3 k4 k5
      dsimp only [SL.sets, AL.sets]
      have bw2 : By G2 _ c := bw.le k4
      clear bw h hTT
      (repeat' (first | (with_reducible refine i_ops ?_; first | (refine g_mv ?_; refine s_mv ?_) | refine o_nil ?_ | (refine g_some ?_; first | refine s_g_t ?_ | refine s_g_f ?_ | refine s_g_f' ?_ | refine s_g_u ?_) | (refine g_pick ?_; first | refine s_pick_t ?_ | refine s_pick_f ?_) | (refine g_len ?_; first | refine s_lenB ?_ | refine s_pure ?_) | (refine g_idx ?_; first | (refine s_idxOB ?_; intro p hp hpw) | (refine s_idxB ?_; intro p hp)) | (refine g_slc ?_; ((first | refine s_slcB ?_ | refine s_slcB01 ?_ | refine s_slcB10 ?_); intro us hus hbs)) | (refine g_build ?_; first | refine s_build ?_ | refine s_buildP ?_) | (refine g_pure ?_; first | refine s_pure ?_ | refine s_saddB ?_) | (refine g_lfield ?_; refine s_lfield ?_) | (refine g_lload ?_; refine s_lload ?_) | (refine g_lstore ?_; first | refine s_lstoreA ?_ | refine s_lstore ?_) | (refine g_lindex ?_; refine s_lindex ?_) | (refine g_lalloc ?_; refine s_lalloc ?_) | (refine g_lbox ?_; refine s_lbox ?_) | (refine g_lmove ?_; refine s_lmove ?_) | (refine g_hload ?_; refine s_hloadP ?_) | (refine g_hstore ?_; (refine s_hstoreB ?_; intro G' hle ho hkp)) | (refine g_b2s ?_; refine s_b2sB ?_)) | (with_reducible refine i_vc ?_; first | refine v_seq ?_ | refine v_ops ?_ | (refine g_cond ?_; first | refine s_cond_t ?_ | refine s_cond_f ?_) | refine v_block ?_ | refine v_skip ?_ | refine v_exit ?_ | refine v_ret ?_ | refine s_drawl ?_ | refine v_draw0 ?_ | refine v_scope ?_) | (with_reducible refine i_plan ?_; first | refine p_done ?_ | refine s_pre ?_ | refine s_preN ?_ | refine s_ag_t ?_ | refine s_ag_f ?_ | refine s_alt ?_ | refine p_alt ?_ ?_) | (with_reducible first | refine n_then ?_ | refine r_then ?_ | refine e_then ?_ | refine n_block ?_ | refine r_block ?_ | refine e_block_eq (by with_unfolding_all rfl) ?_ | refine e_block_ne (by with_unfolding_all rfl) ?_ | refine n_scope ?_ | refine r_scope ?_ | refine e_scope ?_ | (refine g_stand ?_; first | refine s_stand ?_ | refine s_standL ?_)) | ((with_reducible first | refine s_g_c ?_ ?_ | refine s_cond_c ?_ ?_ | refine s_tg_c ?_ ?_ | refine s_ag_c ?_ ?_) <;> intro hb <;> rw [hb] <;> (try simp only [decide_eq_true_eq, decide_eq_false_iff_not, beq_iff_eq, bne_iff_ne, beq_eq_false_iff_ne, bne_eq_false_iff_eq, ne_eq, Int.not_lt, Int.not_le, gt_iff_lt, ge_iff_le, Bool.not_eq_true', Bool.not_eq_false'] at hb)) | ((with_reducible first | refine s_ret ?_ | refine s_normal ?_); try simp only [x_tup0, x_tup1, x_tup2, x_tup3, x_tup4, x_tup5, and_true, true_and])))
      · have hk : k < c.length := by omega
        have hdl : (c.drop k).length = c.length - k := List.length_drop ..
        rw [Int.toNat_natCast] at hus
        have hst := k5.step (Nat.le_refl _) hk
        have hfu := chkOne_fuel deep (c.drop k).length c.length (depth + 1) (c.drop k) (Nat.le_refl _) (by omega)
        refine o_callc (by with_unfolding_all rfl) (ih (c.drop k) (by omega) us _ _ G2 hus (by omega) (by omega) (by omega) (by omega)) ?_
        rintro _ G3 ⟨hle3, hv⟩
        unfold WR at hv
        rw [hfu] at hv
        rcases hv with ⟨he1, rfl⟩ | ⟨he1, rfl⟩
        · obtain ⟨t1, t2⟩ := hst.1 he1
          (repeat' (first | (with_reducible refine i_ops ?_; first | (refine g_mv ?_; refine s_mv ?_) | refine o_nil ?_ | (refine g_some ?_; first | refine s_g_t ?_ | refine s_g_f ?_ | refine s_g_f' ?_ | refine s_g_u ?_) | (refine g_pick ?_; first | refine s_pick_t ?_ | refine s_pick_f ?_) | (refine g_len ?_; first | refine s_lenB ?_ | refine s_pure ?_) | (refine g_idx ?_; first | (refine s_idxOB ?_; intro p hp hpw) | (refine s_idxB ?_; intro p hp)) | (refine g_slc ?_; ((first | refine s_slcB ?_ | refine s_slcB01 ?_ | refine s_slcB10 ?_); intro us hus hbs)) | (refine g_build ?_; first | refine s_build ?_ | refine s_buildP ?_) | (refine g_pure ?_; first | refine s_pure ?_ | refine s_saddB ?_) | (refine g_lfield ?_; refine s_lfield ?_) | (refine g_lload ?_; refine s_lload ?_) | (refine g_lstore ?_; first | refine s_lstoreA ?_ | refine s_lstore ?_) | (refine g_lindex ?_; refine s_lindex ?_) | (refine g_lalloc ?_; refine s_lalloc ?_) | (refine g_lbox ?_; refine s_lbox ?_) | (refine g_lmove ?_; refine s_lmove ?_) | (refine g_hload ?_; refine s_hloadP ?_) | (refine g_hstore ?_; (refine s_hstoreB ?_; intro G' hle ho hkp)) | (refine g_b2s ?_; refine s_b2sB ?_)) | (with_reducible refine i_vc ?_; first | refine v_seq ?_ | refine v_ops ?_ | (refine g_cond ?_; first | refine s_cond_t ?_ | refine s_cond_f ?_) | refine v_block ?_ | refine v_skip ?_ | refine v_exit ?_ | refine v_ret ?_ | refine s_drawl ?_ | refine v_draw0 ?_ | refine v_scope ?_) | (with_reducible refine i_plan ?_; first | refine p_done ?_ | refine s_pre ?_ | refine s_preN ?_ | refine s_ag_t ?_ | refine s_ag_f ?_ | refine s_alt ?_ | refine p_alt ?_ ?_) | (with_reducible first | refine n_then ?_ | refine r_then ?_ | refine e_then ?_ | refine n_block ?_ | refine r_block ?_ | refine e_block_eq (by with_unfolding_all rfl) ?_ | refine e_block_ne (by with_unfolding_all rfl) ?_ | refine n_scope ?_ | refine r_scope ?_ | refine e_scope ?_ | (refine g_stand ?_; first | refine s_stand ?_ | refine s_standL ?_)) | ((with_reducible first | refine s_g_c ?_ ?_ | refine s_cond_c ?_ ?_ | refine s_tg_c ?_ ?_ | refine s_ag_c ?_ ?_) <;> intro hb <;> rw [hb] <;> (try simp only [decide_eq_true_eq, decide_eq_false_iff_not, beq_iff_eq, bne_iff_ne, beq_eq_false_iff_ne, bne_eq_false_iff_eq, ne_eq, Int.not_lt, Int.not_le, gt_iff_lt, ge_iff_le, Bool.not_eq_true', Bool.not_eq_false'] at hb)) | ((with_reducible first | refine s_ret ?_ | refine s_normal ?_); try simp only [x_tup0, x_tup1, x_tup2, x_tup3, x_tup4, x_tup5, and_true, true_and])))
          all_goals first | (exfalso; omega) | skip
          refine ⟨GH.le_trans hle1 (GH.le_trans k4 hle3), .inl ?_⟩
          have e : chkOne deep bs.length depth bs = ⟨0, hdrF bs + T.pos, T.err⟩ := by rw [hone]; unfold oneC; rw [if_pos (by rw [t1]; exact he1)]
          rw [e, t1, t2]
          refine ⟨he1, ?_⟩
          have e2 : a + (hdrF bs + (k + (chkOne deep c.length (depth + 1) (c.drop k)).pos)) = a + nxt bs - c.length + k + (chkOne deep c.length (depth + 1) (c.drop k)).pos := by omega
          rw [e2]
        · have o := one_ok he1
          obtain ⟨g1, g2, g3, g4, g5, g6, g7⟩ := tk_bounds o.1
          have hR := hst.2 he1
          (repeat' (first | (with_reducible refine i_ops ?_; first | (refine g_mv ?_; refine s_mv ?_) | refine o_nil ?_ | (refine g_some ?_; first | refine s_g_t ?_ | refine s_g_f ?_ | refine s_g_f' ?_ | refine s_g_u ?_) | (refine g_pick ?_; first | refine s_pick_t ?_ | refine s_pick_f ?_) | (refine g_len ?_; first | refine s_lenB ?_ | refine s_pure ?_) | (refine g_idx ?_; first | (refine s_idxOB ?_; intro p hp hpw) | (refine s_idxB ?_; intro p hp)) | (refine g_slc ?_; ((first | refine s_slcB ?_ | refine s_slcB01 ?_ | refine s_slcB10 ?_); intro us hus hbs)) | (refine g_build ?_; first | refine s_build ?_ | refine s_buildP ?_) | (refine g_pure ?_; first | refine s_pure ?_ | refine s_saddB ?_) | (refine g_lfield ?_; refine s_lfield ?_) | (refine g_lload ?_; refine s_lload ?_) | (refine g_lstore ?_; first | refine s_lstoreA ?_ | refine s_lstore ?_) | (refine g_lindex ?_; refine s_lindex ?_) | (refine g_lalloc ?_; refine s_lalloc ?_) | (refine g_lbox ?_; refine s_lbox ?_) | (refine g_lmove ?_; refine s_lmove ?_) | (refine g_hload ?_; refine s_hloadP ?_) | (refine g_hstore ?_; (refine s_hstoreB ?_; intro G' hle ho hkp)) | (refine g_b2s ?_; refine s_b2sB ?_)) | (with_reducible refine i_vc ?_; first | refine v_seq ?_ | refine v_ops ?_ | (refine g_cond ?_; first | refine s_cond_t ?_ | refine s_cond_f ?_) | refine v_block ?_ | refine v_skip ?_ | refine v_exit ?_ | refine v_ret ?_ | refine s_drawl ?_ | refine v_draw0 ?_ | refine v_scope ?_) | (with_reducible refine i_plan ?_; first | refine p_done ?_ | refine s_pre ?_ | refine s_preN ?_ | refine s_ag_t ?_ | refine s_ag_f ?_ | refine s_alt ?_ | refine p_alt ?_ ?_) | (with_reducible first | refine n_then ?_ | refine r_then ?_ | refine e_then ?_ | refine n_block ?_ | refine r_block ?_ | refine e_block_eq (by with_unfolding_all rfl) ?_ | refine e_block_ne (by with_unfolding_all rfl) ?_ | refine n_scope ?_ | refine r_scope ?_ | refine e_scope ?_ | (refine g_stand ?_; first | refine s_stand ?_ | refine s_standL ?_)) | ((with_reducible first | refine s_g_c ?_ ?_ | refine s_cond_c ?_ ?_ | refine s_tg_c ?_ ?_ | refine s_ag_c ?_ ?_) <;> intro hb <;> rw [hb] <;> (try simp only [decide_eq_true_eq, decide_eq_false_iff_not, beq_iff_eq, bne_iff_ne, beq_eq_false_iff_ne, bne_eq_false_iff_eq, ne_eq, Int.not_lt, Int.not_le, gt_iff_lt, ge_iff_le, Bool.not_eq_true', Bool.not_eq_false'] at hb)) | ((with_reducible first | refine s_ret ?_ | refine s_normal ?_); try simp only [x_tup0, x_tup1, x_tup2, x_tup3, x_tup4, x_tup5, and_true, true_and])))
          have e3 : ((k : Int) + nxt (c.drop k)) = ((k + (nxt (c.drop k)).toNat : Nat) : Int) := by omega
          have e4 : m + (chkOne deep c.length (depth + 1) (c.drop k)).many - 1 = m - 1 + (chkOne deep c.length (depth + 1) (c.drop k)).many := by omega
          rw [e3]
          refine ⟨c.length - (k + (nxt (c.drop k)).toNat), by unfold nxt at *; omega, (k + (nxt (c.drop k)).toNat, m + (chkOne deep c.length (depth + 1) (c.drop k)).many, G3), rfl, ⟨by dsimp only; omega, by dsimp only; omega, by dsimp only; omega, GH.le_trans k4 hle3, ?_⟩, (by refine ⟨SL.get_fn (by with_unfolding_all rfl), SL.get_fn (by with_unfolding_all rfl), SL.get_fn (by with_unfolding_all rfl), SL.get_fn (by with_unfolding_all rfl), SL.get_fn (by with_unfolding_all rfl), SL.get_fn (by with_unfolding_all rfl), SL.get_fn (by with_unfolding_all rfl), trivial⟩), ⟨AL.get_fn (by with_unfolding_all rfl), trivial⟩, rfl⟩
          dsimp only
          rw [e4]; exact hR
      · have hk : k = c.length := by omega
        rw [hk, List.drop_length, chkAll_nil] at k5
        obtain ⟨t1, t2⟩ := k5.2 rfl
        have e : chkOne deep bs.length depth bs = ⟨1 + T.many, 0, 0⟩ := by rw [hone]; unfold oneC; rw [if_neg (not_not_intro t1)]
        refine ⟨GH.le_trans hle1 k4, .inr ?_⟩
        rw [e]
        refine ⟨rfl, ?_⟩
        have e2 : 1 + T.many = m := by dsimp only at t2; omega
        rw [e2]
    · have hin : ¬ inD bs := hb
      rw [if_neg hin] at hone
      refine ⟨hle1, .inr ?_⟩
      rw [hone]
      exact ⟨rfl, rfl⟩
end Go.Proofs.Ytkidjjnmdpbcaaa.V
