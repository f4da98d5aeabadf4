/- New, Copy, Len; the object's own part of the heap; writing what is new. -/
import Derived.Test.YtbpjjhbkahinjaaPlSE
set_option linter.unusedSimpArgs false
set_option linter.unusedVariables false
-- @extra s_nilPf s_nilPt s_nilNf s_nilNt s_nilck s_fptr0
namespace Go.Proofs.Ytbpjjhbkahinjaa.V
open Go.RowKit Go.ChangeShapes Go.WideShapes
theorem newH (G : GH) : HC Try.prog 9 #[] G fun v G' => G.le G' ∧ HS G G' v [] := by
  refine HC.start comp9 rfl ?_; unfold pc9
  (repeat' (first | (with_reducible refine i_ops ?_; first | (refine g_mv ?_; refine s_mv ?_) | refine o_nil ?_ | (refine g_some ?_; first | refine s_g_t ?_ | refine s_g_f ?_ | refine s_g_f' ?_ | refine s_g_u ?_) | (refine g_pick ?_; first | refine s_pick_t ?_ | refine s_pick_f ?_) | (refine g_build ?_; first | refine s_build ?_ | refine s_buildP ?_) | (refine g_pure ?_; first | refine s_nilPf ?_ | refine s_nilPt ?_ | refine s_nilNf ?_ | refine s_nilNt ?_ | refine s_nilck ?_ | refine s_fptr0 ?_ | refine s_pure ?_ | refine s_saddB ?_) | (refine g_hload ?_; refine s_hloadP ?_) | (refine g_hstore ?_; (refine s_hstoreB ?_; intro G' hle ho hkp))) | (with_reducible refine i_vc ?_; first | refine v_seq ?_ | refine v_ops ?_ | (refine g_cond ?_; first | refine s_cond_t ?_ | refine s_cond_f ?_) | refine v_skip ?_ | refine v_ret ?_) | (with_reducible first | refine n_then ?_ | refine r_then ?_ | refine e_then ?_) | ((with_reducible first | refine s_g_c ?_ ?_ | refine s_cond_c ?_ ?_) <;> intro hb <;> rw [hb] <;> (try simp only [decide_eq_true_eq, decide_eq_false_iff_not, beq_iff_eq, bne_iff_ne, beq_eq_false_iff_ne, bne_eq_false_iff_eq, ne_eq, Int.not_lt, Int.not_le, gt_iff_lt, ge_iff_le, Bool.not_eq_true', Bool.not_eq_false'] at hb)) | ((with_reducible first | refine s_ret ?_ | refine s_normal ?_); try simp only [x_tup0, x_tup1, x_tup2, x_tup3, x_tup4, x_tup5, and_true, true_and])))
  refine o_pure (v := .agg (hcells H0 (.slice none 0 0) 0)) (by with_unfolding_all rfl) (by with_unfolding_all rfl) ?_
  refine o_hbox (z := hcells H0 (.slice none 0 0) 0) (by with_unfolding_all rfl) (by with_unfolding_all rfl) ?_
  intro b hb
  (repeat' (first | (with_reducible refine i_ops ?_; first | (refine g_mv ?_; refine s_mv ?_) | refine o_nil ?_ | (refine g_some ?_; first | refine s_g_t ?_ | refine s_g_f ?_ | refine s_g_f' ?_ | refine s_g_u ?_) | (refine g_pick ?_; first | refine s_pick_t ?_ | refine s_pick_f ?_) | (refine g_build ?_; first | refine s_build ?_ | refine s_buildP ?_) | (refine g_pure ?_; first | refine s_nilPf ?_ | refine s_nilPt ?_ | refine s_nilNf ?_ | refine s_nilNt ?_ | refine s_nilck ?_ | refine s_fptr0 ?_ | refine s_pure ?_ | refine s_saddB ?_) | (refine g_hload ?_; refine s_hloadP ?_) | (refine g_hstore ?_; (refine s_hstoreB ?_; intro G' hle ho hkp))) | (with_reducible refine i_vc ?_; first | refine v_seq ?_ | refine v_ops ?_ | (refine g_cond ?_; first | refine s_cond_t ?_ | refine s_cond_f ?_) | refine v_skip ?_ | refine v_ret ?_) | (with_reducible first | refine n_then ?_ | refine r_then ?_ | refine e_then ?_) | ((with_reducible first | refine s_g_c ?_ ?_ | refine s_cond_c ?_ ?_) <;> intro hb <;> rw [hb] <;> (try simp only [decide_eq_true_eq, decide_eq_false_iff_not, beq_iff_eq, bne_iff_ne, beq_eq_false_iff_ne, bne_eq_false_iff_eq, ne_eq, Int.not_lt, Int.not_le, gt_iff_lt, ge_iff_le, Bool.not_eq_true', Bool.not_eq_false'] at hb)) | ((with_reducible first | refine s_ret ?_ | refine s_normal ?_); try simp only [x_tup0, x_tup1, x_tup2, x_tup3, x_tup4, x_tup5, and_true, true_and])))
  exact ⟨GH.le_put _ hb, b, .slice none 0 0, rfl, _, hb, GH.put_same _ _ _, rfl, .inl ⟨rfl, rfl⟩, fun h => by cases h⟩
theorem hcells_all {hw : List W32} (h : hw.length = 8) (u : Value) (n : Int) : takeV true (hcells hw u n) 0 11 = some (.agg (hcells hw u n)) := by
  obtain ⟨a, b, c, d, e, f, g, k, rfl⟩ := len8 h; rfl
theorem hcells_c1 {hw : List W32} (u : Value) (n : Int) (hu : ∃ a l c, u = .slice a l c) : cells1 ((.bool true :: (hw.map u32 ++ [u, .int .i64 n]))) = true := by
  obtain ⟨a, l, c, rfl⟩ := hu
  simp [cells1, u32, Value.oneCell']
theorem copyH (p : Value) (bs : List UInt8) (G0 G : GH) (hle : G0.le G) (hp : HS G0 G p bs) : HC Try.prog 10 #[p] G fun v G' => G.le G' ∧ HS G G' v bs := by
  obtain ⟨b, r, rfl, e, h0, h1, h2, h3, h4⟩ := hp
  refine HC.start comp10 rfl ?_; unfold pc10
  (repeat' (first | (with_reducible refine i_ops ?_; first | (refine g_mv ?_; refine s_mv ?_) | refine o_nil ?_ | (refine g_some ?_; first | refine s_g_t ?_ | refine s_g_f ?_ | refine s_g_f' ?_ | refine s_g_u ?_) | (refine g_pick ?_; first | refine s_pick_t ?_ | refine s_pick_f ?_) | (refine g_build ?_; first | refine s_build ?_ | refine s_buildP ?_) | (refine g_pure ?_; first | refine s_nilPf ?_ | refine s_nilPt ?_ | refine s_nilNf ?_ | refine s_nilNt ?_ | refine s_nilck ?_ | refine s_fptr0 ?_ | refine s_pure ?_ | refine s_saddB ?_) | (refine g_hload ?_; refine s_hloadP ?_) | (refine g_hstore ?_; (refine s_hstoreB ?_; intro G' hle ho hkp))) | (with_reducible refine i_vc ?_; first | refine v_seq ?_ | refine v_ops ?_ | (refine g_cond ?_; first | refine s_cond_t ?_ | refine s_cond_f ?_) | refine v_skip ?_ | refine v_ret ?_) | (with_reducible first | refine n_then ?_ | refine r_then ?_ | refine e_then ?_) | ((with_reducible first | refine s_g_c ?_ ?_ | refine s_cond_c ?_ ?_) <;> intro hb <;> rw [hb] <;> (try simp only [decide_eq_true_eq, decide_eq_false_iff_not, beq_iff_eq, bne_iff_ne, beq_eq_false_iff_ne, bne_eq_false_iff_eq, ne_eq, Int.not_lt, Int.not_le, gt_iff_lt, ge_iff_le, Bool.not_eq_true', Bool.not_eq_false'] at hb)) | ((with_reducible first | refine s_ret ?_ | refine s_normal ?_); try simp only [x_tup0, x_tup1, x_tup2, x_tup3, x_tup4, x_tup5, and_true, true_and])))
  refine o_hload (by with_unfolding_all rfl) h1 (hcells_m _ _ _) ?_
  (repeat' (first | (with_reducible refine i_ops ?_; first | (refine g_mv ?_; refine s_mv ?_) | refine o_nil ?_ | (refine g_some ?_; first | refine s_g_t ?_ | refine s_g_f ?_ | refine s_g_f' ?_ | refine s_g_u ?_) | (refine g_pick ?_; first | refine s_pick_t ?_ | refine s_pick_f ?_) | (refine g_build ?_; first | refine s_build ?_ | refine s_buildP ?_) | (refine g_pure ?_; first | refine s_nilPf ?_ | refine s_nilPt ?_ | refine s_nilNf ?_ | refine s_nilNt ?_ | refine s_nilck ?_ | refine s_fptr0 ?_ | refine s_pure ?_ | refine s_saddB ?_) | (refine g_hload ?_; refine s_hloadP ?_) | (refine g_hstore ?_; (refine s_hstoreB ?_; intro G' hle ho hkp))) | (with_reducible refine i_vc ?_; first | refine v_seq ?_ | refine v_ops ?_ | (refine g_cond ?_; first | refine s_cond_t ?_ | refine s_cond_f ?_) | refine v_skip ?_ | refine v_ret ?_) | (with_reducible first | refine n_then ?_ | refine r_then ?_ | refine e_then ?_) | ((with_reducible first | refine s_g_c ?_ ?_ | refine s_cond_c ?_ ?_) <;> intro hb <;> rw [hb] <;> (try simp only [decide_eq_true_eq, decide_eq_false_iff_not, beq_iff_eq, bne_iff_ne, beq_eq_false_iff_ne, bne_eq_false_iff_eq, ne_eq, Int.not_lt, Int.not_le, gt_iff_lt, ge_iff_le, Bool.not_eq_true', Bool.not_eq_false'] at hb)) | ((with_reducible first | refine s_ret ?_ | refine s_normal ?_); try simp only [x_tup0, x_tup1, x_tup2, x_tup3, x_tup4, x_tup5, and_true, true_and])))
  refine o_hload (by with_unfolding_all rfl) h1 (hcells_all h2 _ _) ?_
  (repeat' (first | (with_reducible refine i_ops ?_; first | (refine g_mv ?_; refine s_mv ?_) | refine o_nil ?_ | (refine g_some ?_; first | refine s_g_t ?_ | refine s_g_f ?_ | refine s_g_f' ?_ | refine s_g_u ?_) | (refine g_pick ?_; first | refine s_pick_t ?_ | refine s_pick_f ?_) | (refine g_build ?_; first | refine s_build ?_ | refine s_buildP ?_) | (refine g_pure ?_; first | refine s_nilPf ?_ | refine s_nilPt ?_ | refine s_nilNf ?_ | refine s_nilNt ?_ | refine s_nilck ?_ | refine s_fptr0 ?_ | refine s_pure ?_ | refine s_saddB ?_) | (refine g_hload ?_; refine s_hloadP ?_) | (refine g_hstore ?_; (refine s_hstoreB ?_; intro G' hle ho hkp))) | (with_reducible refine i_vc ?_; first | refine v_seq ?_ | refine v_ops ?_ | (refine g_cond ?_; first | refine s_cond_t ?_ | refine s_cond_f ?_) | refine v_skip ?_ | refine v_ret ?_) | (with_reducible first | refine n_then ?_ | refine r_then ?_ | refine e_then ?_) | ((with_reducible first | refine s_g_c ?_ ?_ | refine s_cond_c ?_ ?_) <;> intro hb <;> rw [hb] <;> (try simp only [decide_eq_true_eq, decide_eq_false_iff_not, beq_iff_eq, bne_iff_ne, beq_eq_false_iff_ne, bne_eq_false_iff_eq, ne_eq, Int.not_lt, Int.not_le, gt_iff_lt, ge_iff_le, Bool.not_eq_true', Bool.not_eq_false'] at hb)) | ((with_reducible first | refine s_ret ?_ | refine s_normal ?_); try simp only [x_tup0, x_tup1, x_tup2, x_tup3, x_tup4, x_tup5, and_true, true_and])))
  refine o_halloc ?_
  intro c hc
  have hsz : ∀ z : List Value, z = (.bool true :: ((hs bs (bs.length / 64)).map u32 ++ [r, .int .i64 bs.length])) → z.length = 11 := by
    intro z hz; rw [hz]; simp [h2]
  refine o_hstore (b := c) (q := 0) (vs := (.bool true :: ((hs bs (bs.length / 64)).map u32 ++ [r, .int .i64 bs.length]))) (by with_unfolding_all rfl) (GH.put_same _ _ _) (by with_unfolding_all rfl) rfl ⟨hsz _ rfl, Nat.le_refl _, hcells_c1 _ _ h3.shape, .inl (Nat.zero_le _)⟩ ?_
  rw [wr_all _ _ _ (by rw [hsz _ rfl]; rfl), put_put]
  rw [show ∀ z : Array Value, z.extract 0 0 = #[] by intro z; simp, Array.empty_append]
  change vops _ _ _ _ (S _ _ (G.put c (.cells (hcells (hs bs (bs.length / 64)) r bs.length) _)))
  refine o_nil ?_
  (repeat' (first | (with_reducible refine i_ops ?_; first | (refine g_mv ?_; refine s_mv ?_) | refine o_nil ?_ | (refine g_some ?_; first | refine s_g_t ?_ | refine s_g_f ?_ | refine s_g_f' ?_ | refine s_g_u ?_) | (refine g_pick ?_; first | refine s_pick_t ?_ | refine s_pick_f ?_) | (refine g_build ?_; first | refine s_build ?_ | refine s_buildP ?_) | (refine g_pure ?_; first | refine s_nilPf ?_ | refine s_nilPt ?_ | refine s_nilNf ?_ | refine s_nilNt ?_ | refine s_nilck ?_ | refine s_fptr0 ?_ | refine s_pure ?_ | refine s_saddB ?_) | (refine g_hload ?_; refine s_hloadP ?_) | (refine g_hstore ?_; (refine s_hstoreB ?_; intro G' hle ho hkp))) | (with_reducible refine i_vc ?_; first | refine v_seq ?_ | refine v_ops ?_ | (refine g_cond ?_; first | refine s_cond_t ?_ | refine s_cond_f ?_) | refine v_skip ?_ | refine v_ret ?_) | (with_reducible first | refine n_then ?_ | refine r_then ?_ | refine e_then ?_) | ((with_reducible first | refine s_g_c ?_ ?_ | refine s_cond_c ?_ ?_) <;> intro hb <;> rw [hb] <;> (try simp only [decide_eq_true_eq, decide_eq_false_iff_not, beq_iff_eq, bne_iff_ne, beq_eq_false_iff_ne, bne_eq_false_iff_eq, ne_eq, Int.not_lt, Int.not_le, gt_iff_lt, ge_iff_le, Bool.not_eq_true', Bool.not_eq_false'] at hb)) | ((with_reducible first | refine s_ret ?_ | refine s_normal ?_); try simp only [x_tup0, x_tup1, x_tup2, x_tup3, x_tup4, x_tup5, and_true, true_and])))
  refine o_hload (by with_unfolding_all rfl) (by rw [GH.put_ne]; exact h1; intro e; subst e; rw [h1] at hc; cases hc) (hcells_r h2 _ _) ?_
  have g1 := GH.le_put (.cells (hcells (hs bs (bs.length / 64)) r bs.length) 43) hc
  have g2 : (G.put c (.cells (hcells (hs bs (bs.length / 64)) r bs.length) 43)) c = some (.cells (hcells (hs bs (bs.length / 64)) r bs.length) 43) := GH.put_same _ _ _
  generalize G.put c _ = G1 at g1 g2 ⊢
  refine o_callc (by with_unfolding_all rfl) (clone r _ G1 (h3.le g1).sl (by rw [List.length_drop]; omega)) ?_
  rintro v G2 ⟨g3, g4⟩
  (repeat' (first | (with_reducible refine i_ops ?_; first | (refine g_mv ?_; refine s_mv ?_) | refine o_nil ?_ | (refine g_some ?_; first | refine s_g_t ?_ | refine s_g_f ?_ | refine s_g_f' ?_ | refine s_g_u ?_) | (refine g_pick ?_; first | refine s_pick_t ?_ | refine s_pick_f ?_) | (refine g_build ?_; first | refine s_build ?_ | refine s_buildP ?_) | (refine g_pure ?_; first | refine s_nilPf ?_ | refine s_nilPt ?_ | refine s_nilNf ?_ | refine s_nilNt ?_ | refine s_nilck ?_ | refine s_fptr0 ?_ | refine s_pure ?_ | refine s_saddB ?_) | (refine g_hload ?_; refine s_hloadP ?_) | (refine g_hstore ?_; (refine s_hstoreB ?_; intro G' hle ho hkp))) | (with_reducible refine i_vc ?_; first | refine v_seq ?_ | refine v_ops ?_ | (refine g_cond ?_; first | refine s_cond_t ?_ | refine s_cond_f ?_) | refine v_skip ?_ | refine v_ret ?_) | (with_reducible first | refine n_then ?_ | refine r_then ?_ | refine e_then ?_) | ((with_reducible first | refine s_g_c ?_ ?_ | refine s_cond_c ?_ ?_) <;> intro hb <;> rw [hb] <;> (try simp only [decide_eq_true_eq, decide_eq_false_iff_not, beq_iff_eq, bne_iff_ne, beq_eq_false_iff_ne, bne_eq_false_iff_eq, ne_eq, Int.not_lt, Int.not_le, gt_iff_lt, ge_iff_le, Bool.not_eq_true', Bool.not_eq_false'] at hb)) | ((with_reducible first | refine s_ret ?_ | refine s_normal ?_); try simp only [x_tup0, x_tup1, x_tup2, x_tup3, x_tup4, x_tup5, and_true, true_and])))
  have n2 : blkS v ≠ some c := g4.blk_ne g2
  obtain ⟨ra, rn, rc, hrs⟩ := g4.shape
  refine o_hstore (vs := [v]) (by with_unfolding_all rfl) (g3 _ _ g2) (by with_unfolding_all rfl) (by rw [hrs]; rfl) ⟨rfl, by rw [hcells_size h2]; omega, by rw [hrs]; rfl, .inl (Nat.zero_le _)⟩ ?_
  rw [hcells_wr h2]
  obtain ⟨p1, p2, p3⟩ := put_obj (.cells (hcells (hs bs (bs.length / 64)) v (bs.length : Int)) 43) (GH.le_trans g1 g3) hc (g4.base g1) n2
  generalize GH.put G2 c _ = G5 at p1 p2 p3 ⊢
  (repeat' (first | (with_reducible refine i_ops ?_; first | (refine g_mv ?_; refine s_mv ?_) | refine o_nil ?_ | (refine g_some ?_; first | refine s_g_t ?_ | refine s_g_f ?_ | refine s_g_f' ?_ | refine s_g_u ?_) | (refine g_pick ?_; first | refine s_pick_t ?_ | refine s_pick_f ?_) | (refine g_build ?_; first | refine s_build ?_ | refine s_buildP ?_) | (refine g_pure ?_; first | refine s_nilPf ?_ | refine s_nilPt ?_ | refine s_nilNf ?_ | refine s_nilNt ?_ | refine s_nilck ?_ | refine s_fptr0 ?_ | refine s_pure ?_ | refine s_saddB ?_) | (refine g_hload ?_; refine s_hloadP ?_) | (refine g_hstore ?_; (refine s_hstoreB ?_; intro G' hle ho hkp))) | (with_reducible refine i_vc ?_; first | refine v_seq ?_ | refine v_ops ?_ | (refine g_cond ?_; first | refine s_cond_t ?_ | refine s_cond_f ?_) | refine v_skip ?_ | refine v_ret ?_) | (with_reducible first | refine n_then ?_ | refine r_then ?_ | refine e_then ?_) | ((with_reducible first | refine s_g_c ?_ ?_ | refine s_cond_c ?_ ?_) <;> intro hb <;> rw [hb] <;> (try simp only [decide_eq_true_eq, decide_eq_false_iff_not, beq_iff_eq, bne_iff_ne, beq_eq_false_iff_ne, bne_eq_false_iff_eq, ne_eq, Int.not_lt, Int.not_le, gt_iff_lt, ge_iff_le, Bool.not_eq_true', Bool.not_eq_false'] at hb)) | ((with_reducible first | refine s_ret ?_ | refine s_normal ?_); try simp only [x_tup0, x_tup1, x_tup2, x_tup3, x_tup4, x_tup5, and_true, true_and])))
  exact ⟨p1, c, v, rfl, 43, hc, p2, h2, p3, n2⟩
/-! ### The object's part of the heap -/
def off (F G : GH) : GH := fun c => match F c with | none => G c | some _ => none
theorem off_get {F G : GH} {c : Nat} (h : F c = none) : off F G c = G c := by unfold off; rw [h]
theorem off_none {F G : GH} {c : Nat} {o : Obj} (h : F c = some o) : off F G c = none := by unfold off; rw [h]
theorem off_le (F G : GH) : (off F G).le G := fun c o h => by
  unfold off at h; split at h
  · exact h
  · cases h
def sep (F G : GH) : Prop := ∀ c, F c = none ∨ G c = none
theorem le_off {F B G : GH} (h : B.le G) (hd : sep F B) : B.le (off F G) := fun c o hc => by
  rcases hd c with h1 | h1
  · rw [off_get h1]; exact h c o hc
  · rw [h1] at hc; cases hc
theorem sep.sub {F B B' : GH} (h : sep F B) (hl : B'.le B) : sep F B' := fun c => by
  rcases h c with h1 | h1
  · exact .inl h1
  · refine .inr ?_
    cases e : B' c with
    | none => rfl
    | some o => rw [hl c o e] at h1; cases h1
theorem sep.symm {F B : GH} (h : sep F B) : sep B F := fun c => (h c).symm
/-- F is a hash's own part. -/
def HX (F : GH) (p : Value) (bs : List UInt8) : Prop := ∀ H, F.le H → HS (off F H) H p bs
theorem HS.base {G0 G1 G : GH} {p : Value} {bs : List UInt8} (h : HS G1 G p bs) (hl : G0.le G1) : HS G0 G p bs := let ⟨b, u, e, h⟩ := h; ⟨b, u, e, h.base hl⟩
theorem HS.toX {G0 G : GH} {p : Value} {bs : List UInt8} (h : HS G0 G p bs) : ∃ F : GH, F.le G ∧ sep F G0 ∧ HX F p bs := by
  obtain ⟨b, u, rfl, e, h0, h1, h2, h3, h4⟩ := h
  refine ⟨fun c => if c = b ∨ blkS u = some c then G c else none, ?_, ?_, ?_⟩
  · intro c o hc
    dsimp only at hc
    split at hc
    · exact hc
    · cases hc
  · intro c
    by_cases hc : c = b
    · exact .inr (by rw [hc]; exact h0)
    · by_cases hu : blkS u = some c
      · refine .inr ?_
        cases hg : G0 c with
        | none => rfl
        | some o => exact absurd hu (h3.blk_ne hg)
      · exact .inl (if_neg (by intro h; rcases h with h | h; exact hc h; exact hu h))
  · intro H hH
    have hb : H b = G b := by rw [h1]; exact hH b _ (by (try dsimp only); rw [if_pos (.inl rfl)]; exact h1)
    refine ⟨b, u, rfl, e, ?_, by rw [hb]; exact h1, h2, ?_, h4⟩
    · exact off_none (o := _) (by (try dsimp only); rw [if_pos (.inl rfl)]; exact h1)
    · rcases h3 with h3 | ⟨c, sp, hc0, h3⟩
      · exact .inl h3
      · have hk := h3.blk
        obtain ⟨o, ho⟩ : ∃ o, G c = some o := by obtain ⟨q, len, cap, cs, e, fr, _, hG, _⟩ := h3; exact ⟨_, hG⟩
        refine .inr ⟨c, sp, off_none (o := o) (by (try dsimp only); rw [if_pos (.inr hk)]; exact ho), h3.le fun o' ho' => hH c o' (by (try dsimp only); rw [if_pos (.inr hk)]; exact ho')⟩
/-- What is one's own since F was there lies outside of F. -/
theorem Own.out {n : Nat} {F G1 G : GH} {u : Value} {xs : List Value} (h : Own n G1 G u xs) (hF : F.le G1) : Own n G1 (off F G) u xs := by
  rcases h with h | ⟨b, sp, h0, h⟩
  · exact .inl h
  · refine .inr ⟨b, sp, h0, h.le fun o ho => ?_⟩
    rw [off_get]
    · exact ho
    · cases e : F b with
      | none => rfl
      | some o => rw [hF b o e] at h0; cases h0
theorem writeX (p u : Value) (us : List Value) (ps : List (List UInt8)) (bs : List UInt8) (F G : GH) (hF : F.le G) (hp : HX F p bs) (hu : Parts (off F G) u us ps) (hn : bs.length + ps.flatten.length ≤ 4611686018427387904) (hm : ∀ i (h : i < ps.length), ps[i].length ≤ 211106232532928) :
    HC Try.prog 11 #[p, u] G fun v G' => v = .int .i64 0 ∧ (off F G).le G' ∧ ∃ F' : GH, F'.le G' ∧ sep F' (off F G) ∧ HX F' p (bs ++ ps.flatten) := by
  refine (write p u us ps bs (off F G) G (off_le _ _) (hp G hF) hu hn hm).mono ?_
  rintro v G' ⟨h1, h2, h3⟩
  exact ⟨h1, h2, h3.toX⟩
theorem one_parts {G1 G2 G : GH} {w pc : Value} {x : List UInt8} (h1 : Own 1 G1 G pc (x.map bv)) (h2 : Own 1 G2 G w [pc]) : Parts G w [pc] [x] :=
  ⟨h2.sl, rfl, fun i hi => by
    have : i = 0 := by simpa using hi
    subst this
    exact ⟨pc, rfl, h1.sl⟩⟩
/-- One new piece is written to what is one's own. -/
theorem writeS (p w pc : Value) (x bs : List UInt8) (G0 G1 G2 G : GH) (h0 : G0.le G1) (hp : HS G0 G1 p bs) (hl : G1.le G2) (hl2 : G2.le G) (h1 : Own 1 G1 G pc (x.map bv)) (h2 : Own 1 G2 G w [pc]) (hn : bs.length + x.length ≤ 4611686018427387904) (hm : x.length ≤ 211106232532928) :
    HC Try.prog 11 #[p, w] G fun v G' => v = .int .i64 0 ∧ G0.le G' ∧ HS G0 G' p (bs ++ x) := by
  obtain ⟨F, f1, f2, f3⟩ := hp.toX
  have hFG : F.le G := GH.le_trans f1 (GH.le_trans hl hl2)
  have hP : Parts (off F G) w [pc] [x] := one_parts (h1.out f1) (h2.out (GH.le_trans f1 hl))
  have hB : G0.le (off F G) := le_off (GH.le_trans h0 (GH.le_trans hl hl2)) f2
  refine (write p w [pc] [x] bs (off F G) G (off_le _ _) (f3 G hFG) hP (by simpa using hn) (by intro i hi; have : i = 0 := by simpa using hi
                                                                                               subst this; exact hm)).mono ?_
  rintro v G' ⟨e1, e2, e3⟩
  refine ⟨e1, GH.le_trans hB e2, ?_⟩
  simp only [List.flatten_cons, List.flatten_nil, List.append_nil] at e3
  exact e3.base hB
end Go.Proofs.Ytbpjjhbkahinjaa.V
