/- SlipLaid. -/
import Derived.Test.YtnddanaangolgaaLN
import Derived.Test.YtnddanaangolgaaLVM
set_option linter.unusedSimpArgs false
set_option linter.unusedVariables false
-- @extra s_minQ s_xor8 s_xor32
namespace Go.Proofs.Ytnddanaangolgaa.V
open Go.RowKit Go.ChangeShapes Go.WideShapes
section
variable {P : Program} {E : Env} {K : St → Prop} {r : List Stp} {dd : Option Nat} {L : SL} {A : AL} {G : GH}
theorem s_minQ {d : Nat} {xs : List Operand} {x y : Nat} (h : vops P E r K (S (.set d (.int .i64 ((min x y : Nat) : Int)) L) A G)) (hx : evs L xs = some [.int .i64 x, .int .i64 y] := by with_unfolding_all rfl) : vops P E (⟨none, dd, .pure d .minI xs⟩ :: r) K (S L A G) := o_pure hx (by
  rw [x_min2]
  congr 2
  split <;> omega) h
end
/-- Three rows, laid over one another. -/
def lay3 (a b c : List UInt8) : Nat → List UInt8
  | 0 => []
  | n + 1 => lay3 a b c n ++ [a.getD n 0 ^^^ b.getD n 0 ^^^ c.getD n 0]
theorem lay3_len (a b c : List UInt8) : ∀ n, (lay3 a b c n).length = n
  | 0 => rfl
  | n + 1 => by rw [lay3, List.length_append, lay3_len a b c n]; rfl
theorem lay3_at (a b c : List UInt8) : ∀ {n i : Nat}, i < n → (lay3 a b c n).getD i 0 = a.getD i 0 ^^^ b.getD i 0 ^^^ c.getD i 0
  | n + 1, i, h => by
    rw [lay3, List.getD_eq_getElem?_getD]
    by_cases hi : i < n
    · rw [List.getElem?_append_left (by rw [lay3_len]; exact hi), ← List.getD_eq_getElem?_getD, lay3_at a b c hi]
    · have : i = n := by omega
      subst this
      rw [List.getElem?_append_right (by rw [lay3_len]; omega), lay3_len, Nat.sub_self]; rfl
theorem take_at (a : List UInt8) {n i : Nat} (h : i < n) : (a.take n).getD i 0 = a.getD i 0 := by
  rw [List.getD_eq_getElem?_getD, List.getD_eq_getElem?_getD, List.getElem?_take_of_lt h]
theorem lay3_sum (a b c : List UInt8) {n : Nat} (ha : n ≤ a.length) (hb : n ≤ b.length) (hc : n ≤ c.length) : sumB (a.take n) ^^^ sumB (b.take n) ^^^ sumB (c.take n) = sumB (lay3 a b c n) := by
  unfold sumB
  rw [crc_all, crc_all, crc_all, crc_all, lay3_len, List.length_take, List.length_take, List.length_take, Nat.min_eq_left ha, Nat.min_eq_left hb, Nat.min_eq_left hc]
  have e : crf (BitVec.allOnes 32) (bitat (lay3 a b c n)) (8 * n) = crf (BitVec.allOnes 32) (bitat (a.take n)) (8 * n) ^^^ crf (BitVec.allOnes 32) (bitat (b.take n)) (8 * n) ^^^ crf (BitVec.allOnes 32) (bitat (c.take n)) (8 * n) := by
    rw [← crf_xor, ← crf_xor, show (BitVec.allOnes 32 ^^^ BitVec.allOnes 32 ^^^ BitVec.allOnes 32) = BitVec.allOnes 32 by decide]
    refine crf_congr fun i hi => ?_
    have h8 : i / 8 < n := by omega
    unfold bitat
    rw [lay3_at a b c h8, take_at a h8, take_at b h8, take_at c h8, UInt8.toNat_xor, UInt8.toNat_xor, Nat.testBit_xor, Nat.testBit_xor]
  rw [e]
  generalize crf (BitVec.allOnes 32) (bitat (a.take n)) (8 * n) = x
  generalize crf (BitVec.allOnes 32) (bitat (b.take n)) (8 * n) = y
  generalize crf (BitVec.allOnes 32) (bitat (c.take n)) (8 * n) = z
  apply BitVec.eq_of_getLsbD_eq
  intro i hi
  simp only [BitVec.getLsbD_xor, BitVec.getLsbD_not, hi, decide_true, Bool.true_and]
  cases x.getLsbD i <;> cases y.getLsbD i <;> cases z.getLsbD i <;> rfl
/-- What is done so far. -/
theorem lay_step {a b c : List UInt8} {n i : Nat} {zs : List UInt8} (hz : zs = lay3 a b c i ++ (a.take n).drop i) (hi : i < n) (hn : n ≤ a.length) : zs.set i (zs.getD i 0 ^^^ b.getD i 0 ^^^ c.getD i 0) = lay3 a b c (i + 1) ++ (a.take n).drop (i + 1) ∧ zs.getD i 0 = a.getD i 0 := by
  have hl := lay3_len a b c i
  have hd : (a.take n).drop i = a.getD i 0 :: (a.take n).drop (i + 1) := by
    rw [List.drop_eq_getElem_cons (by rw [List.length_take]; omega)]
    congr 1
    rw [List.getD_eq_getElem?_getD, List.getElem?_eq_getElem (by omega)]; simp
  have hg : zs.getD i 0 = a.getD i 0 := by
    rw [hz, List.getD_eq_getElem?_getD, List.getElem?_append_right (by omega), hl, Nat.sub_self, hd]; rfl
  refine ⟨?_, hg⟩
  rw [hg, hz, hd, List.set_append_right _ _ (by omega), hl, Nat.sub_self, List.set_cons_zero, lay3, List.append_assoc]; rfl
theorem law3 (ua ub uc : Value) (a b c : List UInt8) (G : GH) (ha : By G ua a) (hb : By G ub b) (hc : By G uc c) (sa : a.length ≤ 140737488351232) :
    HC Try.prog 3 #[ua, ub, uc] G fun v G' => v = .bool true ∧ G.le G' := by
  have la := By.len_le ha
  have lb := By.len_le hb
  have lc := By.len_le hc
  refine HC.start comp3 rfl ?_; unfold pc3
  (repeat' (first | (with_reducible refine i_ops ?_; first | (refine g_mv ?_; refine s_mv ?_) | refine o_nil ?_ | (refine g_some ?_; first | refine s_g_t ?_ | refine s_g_f ?_ | refine s_g_f' ?_ | refine s_g_u ?_) | (refine g_pick ?_; first | refine s_pick_t ?_ | refine s_pick_f ?_) | (refine g_len ?_; first | refine s_lenB ?_ | refine s_pure ?_) | (refine g_idx ?_; first | (refine s_idxOB ?_; intro p hp hpw) | (refine s_idxB ?_; intro p hp)) | (refine g_slc ?_; ((first | refine s_slcB ?_ | refine s_slcB01 ?_ | refine s_slcB10 ?_); intro us hus hbs)) | (refine g_pure ?_; first | refine s_minQ ?_ | refine s_xor8 ?_ | refine s_xor32 ?_ | refine s_pure ?_ | refine s_saddB ?_) | (refine g_hload ?_; refine s_hloadP ?_) | (refine g_hstore ?_; (refine s_hstoreB ?_; intro G' hle ho hkp))) | (with_reducible refine i_vc ?_; first | refine v_seq ?_ | refine v_ops ?_ | (refine g_cond ?_; first | refine s_cond_t ?_ | refine s_cond_f ?_) | refine v_block ?_ | refine v_skip ?_ | refine v_exit ?_ | refine v_ret ?_ | refine s_drawl ?_ | refine v_draw0 ?_) | (with_reducible refine i_plan ?_; first | refine p_done ?_ | refine s_pre ?_ | refine s_preN ?_ | refine s_ag_t ?_ | refine s_ag_f ?_ | refine s_alt ?_ | refine p_alt ?_ ?_) | (with_reducible first | refine n_then ?_ | refine r_then ?_ | refine e_then ?_ | refine n_block ?_ | refine r_block ?_ | refine e_block_eq (by with_unfolding_all rfl) ?_ | refine e_block_ne (by with_unfolding_all rfl) ?_ | (refine g_stand ?_; first | refine s_stand ?_ | refine s_standL ?_)) | ((with_reducible first | refine s_g_c ?_ ?_ | refine s_cond_c ?_ ?_ | refine s_tg_c ?_ ?_ | refine s_ag_c ?_ ?_) <;> intro hb <;> rw [hb] <;> (try simp only [decide_eq_true_eq, decide_eq_false_iff_not, beq_iff_eq, bne_iff_ne, beq_eq_false_iff_ne, bne_eq_false_iff_eq, ne_eq, Int.not_lt, Int.not_le, gt_iff_lt, ge_iff_le, Bool.not_eq_true', Bool.not_eq_false'] at hb)) | ((with_reducible first | refine s_ret ?_ | refine s_normal ?_); try simp only [x_tup0, x_tup1, x_tup2, x_tup3, x_tup4, x_tup5, and_true, true_and])))
  obtain ⟨n, hn, na, nb, nc⟩ : ∃ n, n = min a.length (min b.length c.length) ∧ n ≤ a.length ∧ n ≤ b.length ∧ n ≤ c.length := ⟨_, rfl, by omega, by omega, by omega⟩
  rw [← hn]
  refine o_bsliceB [] (by with_unfolding_all rfl) rfl rfl rfl rfl rfl ?_
  intro w1 G1 hle1 ho1 hw1
  (repeat' (first | (with_reducible refine i_ops ?_; first | (refine g_mv ?_; refine s_mv ?_) | refine o_nil ?_ | (refine g_some ?_; first | refine s_g_t ?_ | refine s_g_f ?_ | refine s_g_f' ?_ | refine s_g_u ?_) | (refine g_pick ?_; first | refine s_pick_t ?_ | refine s_pick_f ?_) | (refine g_len ?_; first | refine s_lenB ?_ | refine s_pure ?_) | (refine g_idx ?_; first | (refine s_idxOB ?_; intro p hp hpw) | (refine s_idxB ?_; intro p hp)) | (refine g_slc ?_; ((first | refine s_slcB ?_ | refine s_slcB01 ?_ | refine s_slcB10 ?_); intro us hus hbs)) | (refine g_pure ?_; first | refine s_minQ ?_ | refine s_xor8 ?_ | refine s_xor32 ?_ | refine s_pure ?_ | refine s_saddB ?_) | (refine g_hload ?_; refine s_hloadP ?_) | (refine g_hstore ?_; (refine s_hstoreB ?_; intro G' hle ho hkp))) | (with_reducible refine i_vc ?_; first | refine v_seq ?_ | refine v_ops ?_ | (refine g_cond ?_; first | refine s_cond_t ?_ | refine s_cond_f ?_) | refine v_block ?_ | refine v_skip ?_ | refine v_exit ?_ | refine v_ret ?_ | refine s_drawl ?_ | refine v_draw0 ?_) | (with_reducible refine i_plan ?_; first | refine p_done ?_ | refine s_pre ?_ | refine s_preN ?_ | refine s_ag_t ?_ | refine s_ag_f ?_ | refine s_alt ?_ | refine p_alt ?_ ?_) | (with_reducible first | refine n_then ?_ | refine r_then ?_ | refine e_then ?_ | refine n_block ?_ | refine r_block ?_ | refine e_block_eq (by with_unfolding_all rfl) ?_ | refine e_block_ne (by with_unfolding_all rfl) ?_ | (refine g_stand ?_; first | refine s_stand ?_ | refine s_standL ?_)) | ((with_reducible first | refine s_g_c ?_ ?_ | refine s_cond_c ?_ ?_ | refine s_tg_c ?_ ?_ | refine s_ag_c ?_ ?_) <;> intro hb <;> rw [hb] <;> (try simp only [decide_eq_true_eq, decide_eq_false_iff_not, beq_iff_eq, bne_iff_ne, beq_eq_false_iff_ne, bne_eq_false_iff_eq, ne_eq, Int.not_lt, Int.not_le, gt_iff_lt, ge_iff_le, Bool.not_eq_true', Bool.not_eq_false'] at hb)) | ((with_reducible first | refine s_ret ?_ | refine s_normal ?_); try simp only [x_tup0, x_tup1, x_tup2, x_tup3, x_tup4, x_tup5, and_true, true_and])))
  rw [show ((n : Int)).toNat = n by omega] at hus
  have ltn : (a.take n).length = n := by rw [List.length_take]; omega
  refine o_appendO (G0 := G) (by with_unfolding_all rfl) (by with_unfolding_all rfl) ho1 hus (cells1_bytes _) rfl hle1 (by rw [hw1, By.len hus]; omega) ?_
  intro w G2 q1 q2 q3 q4 q5
  have q2 : Own 1 G G2 w ((a.take n).map bv) := by simpa using q2
  (repeat' (first | (with_reducible refine i_ops ?_; first | (refine g_mv ?_; refine s_mv ?_) | refine o_nil ?_ | (refine g_some ?_; first | refine s_g_t ?_ | refine s_g_f ?_ | refine s_g_f' ?_ | refine s_g_u ?_) | (refine g_pick ?_; first | refine s_pick_t ?_ | refine s_pick_f ?_) | (refine g_len ?_; first | refine s_lenB ?_ | refine s_pure ?_) | (refine g_idx ?_; first | (refine s_idxOB ?_; intro p hp hpw) | (refine s_idxB ?_; intro p hp)) | (refine g_slc ?_; ((first | refine s_slcB ?_ | refine s_slcB01 ?_ | refine s_slcB10 ?_); intro us hus hbs)) | (refine g_pure ?_; first | refine s_minQ ?_ | refine s_xor8 ?_ | refine s_xor32 ?_ | refine s_pure ?_ | refine s_saddB ?_) | (refine g_hload ?_; refine s_hloadP ?_) | (refine g_hstore ?_; (refine s_hstoreB ?_; intro G' hle ho hkp))) | (with_reducible refine i_vc ?_; first | refine v_seq ?_ | refine v_ops ?_ | (refine g_cond ?_; first | refine s_cond_t ?_ | refine s_cond_f ?_) | refine v_block ?_ | refine v_skip ?_ | refine v_exit ?_ | refine v_ret ?_ | refine s_drawl ?_ | refine v_draw0 ?_) | (with_reducible refine i_plan ?_; first | refine p_done ?_ | refine s_pre ?_ | refine s_preN ?_ | refine s_ag_t ?_ | refine s_ag_f ?_ | refine s_alt ?_ | refine p_alt ?_ ?_) | (with_reducible first | refine n_then ?_ | refine r_then ?_ | refine e_then ?_ | refine n_block ?_ | refine r_block ?_ | refine e_block_eq (by with_unfolding_all rfl) ?_ | refine e_block_ne (by with_unfolding_all rfl) ?_ | (refine g_stand ?_; first | refine s_stand ?_ | refine s_standL ?_)) | ((with_reducible first | refine s_g_c ?_ ?_ | refine s_cond_c ?_ ?_ | refine s_tg_c ?_ ?_ | refine s_ag_c ?_ ?_) <;> intro hb <;> rw [hb] <;> (try simp only [decide_eq_true_eq, decide_eq_false_iff_not, beq_iff_eq, bne_iff_ne, beq_eq_false_iff_ne, bne_eq_false_iff_eq, ne_eq, Int.not_lt, Int.not_le, gt_iff_lt, ge_iff_le, Bool.not_eq_true', Bool.not_eq_false'] at hb)) | ((with_reducible first | refine s_ret ?_ | refine s_normal ?_); try simp only [x_tup0, x_tup1, x_tup2, x_tup3, x_tup4, x_tup5, and_true, true_and])))
  refine v_loopX (α := Nat × List UInt8 × GH) (fun x => x.1 ≤ n ∧ x.2.1 = lay3 a b c x.1 ++ (a.take n).drop x.1 ∧ G.le x.2.2 ∧ Own 1 G x.2.2 w (x.2.1.map bv)) (fun x => [(0, ua), (1, ub), (2, uc), (7, .int .i64 n), (8, w), (9, .int .i64 x.1)]) (fun _ => []) (fun x => x.2.2) (fun x => n - x.1) (0, a.take n, G2)
    ⟨Nat.zero_le _, rfl, q1, q2⟩ (by refine ⟨SL.get_fn (by with_unfolding_all rfl), SL.get_fn (by with_unfolding_all rfl), SL.get_fn (by with_unfolding_all rfl), SL.get_fn (by with_unfolding_all rfl), SL.get_fn (by with_unfolding_all rfl), SL.get_fn (by with_unfolding_all rfl), trivial⟩) trivial rfl ?_
  clear q2 q3 q4 q5 ho1 hus
  rintro ⟨i, zs, H⟩ s ll ⟨k1, k2, k3, k4⟩
  dsimp only at k1 k2 k3 k4
  dsimp only [SL.sets, AL.sets]
  have lz : zs.length = n := by rw [k2, List.length_append, lay3_len, List.length_drop, ltn]; omega
  have hbH : By H ub b := hb.le k3
  have hcH : By H uc c := hc.le k3
  (repeat' (first | (with_reducible refine i_ops ?_; first | (refine g_mv ?_; refine s_mv ?_) | refine o_nil ?_ | (refine g_some ?_; first | refine s_g_t ?_ | refine s_g_f ?_ | refine s_g_f' ?_ | refine s_g_u ?_) | (refine g_pick ?_; first | refine s_pick_t ?_ | refine s_pick_f ?_) | (refine g_len ?_; first | refine s_lenB ?_ | refine s_pure ?_) | (refine g_idx ?_; first | (refine s_idxOB ?_; intro p hp hpw) | (refine s_idxB ?_; intro p hp)) | (refine g_slc ?_; ((first | refine s_slcB ?_ | refine s_slcB01 ?_ | refine s_slcB10 ?_); intro us hus hbs)) | (refine g_pure ?_; first | refine s_minQ ?_ | refine s_xor8 ?_ | refine s_xor32 ?_ | refine s_pure ?_ | refine s_saddB ?_) | (refine g_hload ?_; refine s_hloadP ?_) | (refine g_hstore ?_; (refine s_hstoreB ?_; intro G' hle ho hkp))) | (with_reducible refine i_vc ?_; first | refine v_seq ?_ | refine v_ops ?_ | (refine g_cond ?_; first | refine s_cond_t ?_ | refine s_cond_f ?_) | refine v_block ?_ | refine v_skip ?_ | refine v_exit ?_ | refine v_ret ?_ | refine v_drawG G (by first | assumption | exact GH.le_refl _ | ((repeat (first | exact GH.le_refl _ | assumption | refine GH.le_trans ?_ (by assumption))); first | done | fail)) ?_) | (with_reducible refine i_plan ?_; first | refine p_done ?_ | refine s_preN ?_ | refine p_preG (by with_unfolding_all rfl) ?_ | refine s_ag_t ?_ | refine s_ag_f ?_ | refine s_alt ?_ | refine p_alt ?_ ?_) | (with_reducible first | refine n_then ?_ | refine r_then ?_ | refine e_then ?_ | refine n_block ?_ | refine r_block ?_ | refine e_block_eq (by with_unfolding_all rfl) ?_ | refine e_block_ne (by with_unfolding_all rfl) ?_ | (refine g_stand ?_; first | refine s_stand ?_ | refine s_standL ?_)) | (with_reducible refine k_back ?_) | ((with_reducible first | refine s_g_c ?_ ?_ | refine s_cond_c ?_ ?_ | refine s_tg_c ?_ ?_ | refine s_ag_c ?_ ?_) <;> intro hb <;> rw [hb] <;> (try simp only [decide_eq_true_eq, decide_eq_false_iff_not, beq_iff_eq, bne_iff_ne, beq_eq_false_iff_ne, bne_eq_false_iff_eq, ne_eq, Int.not_lt, Int.not_le, gt_iff_lt, ge_iff_le, Bool.not_eq_true', Bool.not_eq_false'] at hb)) | ((with_reducible first | refine s_ret ?_ | refine s_normal ?_); try simp only [x_tup0, x_tup1, x_tup2, x_tup3, x_tup4, x_tup5, and_true, true_and])))
  all_goals try (
    rw [Int.toNat_natCast] at ho
    obtain ⟨st1, st2⟩ := lay_step (b := b) k2 (show i < n by omega) na
    rw [st1] at ho
    exact ⟨n - (i + 1), by omega, (i + 1, _, G'), rfl, ⟨by dsimp only; omega, rfl, hle, ho⟩, (by refine ⟨SL.get_fn (by with_unfolding_all rfl), SL.get_fn (by with_unfolding_all rfl), SL.get_fn (by with_unfolding_all rfl), SL.get_fn (by with_unfolding_all rfl), SL.get_fn (by with_unfolding_all rfl), SL.get_fn (by with_unfolding_all rfl), trivial⟩), trivial, rfl⟩)
  have hi : i = n := by omega
  subst hi
  rw [List.drop_of_length_le (by omega), List.append_nil] at k2
  subst k2
  have hsum := lay3_sum a b c na nb nc
  obtain ⟨X, hX⟩ : ∃ X, X = sumB (a.take i) := ⟨_, rfl⟩
  obtain ⟨Y, hY⟩ : ∃ Y, Y = sumB (b.take i) := ⟨_, rfl⟩
  obtain ⟨Z, hZ⟩ : ∃ Z, Z = sumB (c.take i) := ⟨_, rfl⟩
  rw [← hX, ← hY, ← hZ] at hsum
  have hz4 := k4.sl
  refine v_flow [(45, .val ua), (46, .val (.int .i64 i)), (47, .is fun v G => By G v (a.take i)), (48, .is fun v G => ∃ us, Parts G v us [a.take i]), (49, .val (u32 X)),
    (50, .val ub), (51, .val (.int .i64 i)), (52, .is fun v G => By G v (b.take i)), (53, .is fun v G => ∃ us, Parts G v us [b.take i]), (54, .val (u32 Y)), (55, .val (u32 (X ^^^ Y))),
    (56, .val uc), (57, .val (.int .i64 i)), (58, .is fun v G => By G v (c.take i)), (59, .is fun v G => ∃ us, Parts G v us [c.take i]), (60, .val (u32 Z)), (61, .val (u32 (X ^^^ Y ^^^ Z))),
    (62, .val w), (63, .is fun v G => ∃ us, Parts G v us [lay3 a b c i]), (64, .val (u32 (X ^^^ Y ^^^ Z))), (65, .val (.bool true)), (66, .val (.bool true)), (67, .val (.bool true)), (68, .val (.bool true)), (6, .val (.bool true))]
    [(0, ua), (1, ub), (2, uc), (7, .int .i64 i), (8, w)] [] [24] (by refine ⟨SL.get_fn (by with_unfolding_all rfl), SL.get_fn (by with_unfolding_all rfl), SL.get_fn (by with_unfolding_all rfl), SL.get_fn (by with_unfolding_all rfl), SL.get_fn (by with_unfolding_all rfl), trivial⟩) trivial rfl rfl ?_ ?_ ?_
  · refine ⟨fun v G G' h hl => Sl.le h hl, fun v G G' ⟨us, h⟩ hl => ⟨us, h.le hl⟩, fun v G G' h hl => Sl.le h hl, fun v G G' ⟨us, h⟩ hl => ⟨us, h.le hl⟩, fun v G G' h hl => Sl.le h hl, fun v G G' ⟨us, h⟩ hl => ⟨us, h.le hl⟩, fun v G G' ⟨us, h⟩ hl => ⟨us, h.le hl⟩, trivial⟩
  · (repeat' (first | exact flowObl_nil | refine flowObl_cons ?_ ?_)); all_goals (intro sl ll G' hle; (repeat' (first | refine dA_val (by with_unfolding_all rfl) ?_ | (refine dA_is (by with_unfolding_all rfl) ?_; intro v hv))); refine dA_nil ?_; dsimp only [SL.sets, AL.sets])
    all_goals (repeat' (first | (with_reducible refine i_ops ?_; first | (refine g_mv ?_; refine s_mv ?_) | refine o_nil ?_ | (refine g_some ?_; first | refine s_g_t ?_ | refine s_g_f ?_ | refine s_g_f' ?_ | refine s_g_u ?_) | (refine g_pick ?_; first | refine s_pick_t ?_ | refine s_pick_f ?_) | (refine g_len ?_; first | refine s_lenB ?_ | refine s_pure ?_) | (refine g_idx ?_; first | (refine s_idxOB ?_; intro p hp hpw) | (refine s_idxB ?_; intro p hp)) | (refine g_slc ?_; ((first | refine s_slcB ?_ | refine s_slcB01 ?_ | refine s_slcB10 ?_); intro us hus hbs)) | (refine g_pure ?_; first | refine s_minQ ?_ | refine s_xor8 ?_ | refine s_xor32 ?_ | refine s_pure ?_ | refine s_saddB ?_) | (refine g_hload ?_; refine s_hloadP ?_) | (refine g_hstore ?_; (refine s_hstoreB ?_; intro G' hle ho hkp))) | (with_reducible refine i_vc ?_; first | refine v_seq ?_ | refine v_ops ?_ | (refine g_cond ?_; first | refine s_cond_t ?_ | refine s_cond_f ?_) | refine v_block ?_ | refine v_skip ?_ | refine v_exit ?_ | refine v_ret ?_ | refine s_drawl ?_ | refine v_draw0 ?_) | (with_reducible refine i_plan ?_; first | refine p_done ?_ | refine s_pre ?_ | refine s_preN ?_ | refine s_ag_t ?_ | refine s_ag_f ?_ | refine s_alt ?_ | refine p_alt ?_ ?_) | (with_reducible first | refine n_then ?_ | refine r_then ?_ | refine e_then ?_ | refine n_block ?_ | refine r_block ?_ | refine e_block_eq (by with_unfolding_all rfl) ?_ | refine e_block_ne (by with_unfolding_all rfl) ?_ | (refine g_stand ?_; first | refine s_stand ?_ | refine s_standL ?_)) | ((with_reducible first | refine s_g_c ?_ ?_ | refine s_cond_c ?_ ?_ | refine s_tg_c ?_ ?_ | refine s_ag_c ?_ ?_) <;> intro hb <;> rw [hb] <;> (try simp only [decide_eq_true_eq, decide_eq_false_iff_not, beq_iff_eq, bne_iff_ne, beq_eq_false_iff_ne, bne_eq_false_iff_eq, ne_eq, Int.not_lt, Int.not_le, gt_iff_lt, ge_iff_le, Bool.not_eq_true', Bool.not_eq_false'] at hb)) | ((with_reducible first | refine s_ret ?_ | refine s_normal ?_); try simp only [x_tup0, x_tup1, x_tup2, x_tup3, x_tup4, x_tup5, and_true, true_and])))
    all_goals try exact flow_end (GH.le_refl _) rfl
    all_goals try exact flow_end (GH.le_refl _) (by rw [Int.toNat_natCast] at hus; exact hus)
    · obtain ⟨ax, nx, cx, rfl⟩ := Sl.shape hv
      refine o_bsliceO (by with_unfolding_all rfl) rfl rfl rfl rfl rfl ?_
      intro x Gx hx ho hl
      refine o_nil ?_
      exact flow_end hx ⟨_, one_part ho.sl (Sl.le hv hx)⟩
    · obtain ⟨us, hv⟩ := hv
      refine o_callp (by with_unfolding_all rfl) (sum10 v us _ G' hv) ?_
      refine o_nil ?_
      exact flow_end (GH.le_refl _) (by show u32 _ = u32 X; rw [hX]; simp)
    · obtain ⟨ax, nx, cx, rfl⟩ := Sl.shape hv
      refine o_bsliceO (by with_unfolding_all rfl) rfl rfl rfl rfl rfl ?_
      intro x Gx hx ho hl
      refine o_nil ?_
      exact flow_end hx ⟨_, one_part ho.sl (Sl.le hv hx)⟩
    · obtain ⟨us, hv⟩ := hv
      refine o_callp (by with_unfolding_all rfl) (sum10 v us _ G' hv) ?_
      refine o_nil ?_
      exact flow_end (GH.le_refl _) (by show u32 _ = u32 Y; rw [hY]; simp)
    · obtain ⟨ax, nx, cx, rfl⟩ := Sl.shape hv
      refine o_bsliceO (by with_unfolding_all rfl) rfl rfl rfl rfl rfl ?_
      intro x Gx hx ho hl
      refine o_nil ?_
      exact flow_end hx ⟨_, one_part ho.sl (Sl.le hv hx)⟩
    · obtain ⟨us, hv⟩ := hv
      refine o_callp (by with_unfolding_all rfl) (sum10 v us _ G' hv) ?_
      refine o_nil ?_
      exact flow_end (GH.le_refl _) (by show u32 _ = u32 Z; rw [hZ]; simp)
    · obtain ⟨ax, nx, cx, rfl⟩ := Sl.shape hz4
      refine o_bsliceO (by with_unfolding_all rfl) rfl rfl rfl rfl rfl ?_
      intro x Gx hx ho hl
      refine o_nil ?_
      exact flow_end hx ⟨_, one_part ho.sl (Sl.le (Sl.le hz4 hle) hx)⟩
    · obtain ⟨us, hv⟩ := hv
      refine o_callp (by with_unfolding_all rfl) (sum10 v us _ G' hv) ?_
      refine o_nil ?_
      exact flow_end (GH.le_refl _) (by show u32 _ = u32 _; rw [hsum]; simp)
    · refine o_callc (by with_unfolding_all rfl) (works11 G') ?_
      rintro _ G2 ⟨rfl, h2⟩
      refine o_nil ?_
      exact flow_end h2 rfl
  · intro sl ll G' hle
    (repeat' (first | refine dA_val (by with_unfolding_all rfl) ?_ | (refine dA_is (by with_unfolding_all rfl) ?_; intro v hv))); refine dA_nil ?_; dsimp only [SL.sets, AL.sets]
    (repeat' (first | (with_reducible refine i_ops ?_; first | (refine g_mv ?_; refine s_mv ?_) | refine o_nil ?_ | (refine g_some ?_; first | refine s_g_t ?_ | refine s_g_f ?_ | refine s_g_f' ?_ | refine s_g_u ?_) | (refine g_pick ?_; first | refine s_pick_t ?_ | refine s_pick_f ?_) | (refine g_len ?_; first | refine s_lenB ?_ | refine s_pure ?_) | (refine g_idx ?_; first | (refine s_idxOB ?_; intro p hp hpw) | (refine s_idxB ?_; intro p hp)) | (refine g_slc ?_; ((first | refine s_slcB ?_ | refine s_slcB01 ?_ | refine s_slcB10 ?_); intro us hus hbs)) | (refine g_pure ?_; first | refine s_minQ ?_ | refine s_xor8 ?_ | refine s_xor32 ?_ | refine s_pure ?_ | refine s_saddB ?_) | (refine g_hload ?_; refine s_hloadP ?_) | (refine g_hstore ?_; (refine s_hstoreB ?_; intro G' hle ho hkp))) | (with_reducible refine i_vc ?_; first | refine v_seq ?_ | refine v_ops ?_ | (refine g_cond ?_; first | refine s_cond_t ?_ | refine s_cond_f ?_) | refine v_block ?_ | refine v_skip ?_ | refine v_exit ?_ | refine v_ret ?_ | refine s_drawl ?_ | refine v_draw0 ?_) | (with_reducible refine i_plan ?_; first | refine p_done ?_ | refine s_pre ?_ | refine s_preN ?_ | refine s_ag_t ?_ | refine s_ag_f ?_ | refine s_alt ?_ | refine p_alt ?_ ?_) | (with_reducible first | refine n_then ?_ | refine r_then ?_ | refine e_then ?_ | refine n_block ?_ | refine r_block ?_ | refine e_block_eq (by with_unfolding_all rfl) ?_ | refine e_block_ne (by with_unfolding_all rfl) ?_ | (refine g_stand ?_; first | refine s_stand ?_ | refine s_standL ?_)) | ((with_reducible first | refine s_g_c ?_ ?_ | refine s_cond_c ?_ ?_ | refine s_tg_c ?_ ?_ | refine s_ag_c ?_ ?_) <;> intro hb <;> rw [hb] <;> (try simp only [decide_eq_true_eq, decide_eq_false_iff_not, beq_iff_eq, bne_iff_ne, beq_eq_false_iff_ne, bne_eq_false_iff_eq, ne_eq, Int.not_lt, Int.not_le, gt_iff_lt, ge_iff_le, Bool.not_eq_true', Bool.not_eq_false'] at hb)) | ((with_reducible first | refine s_ret ?_ | refine s_normal ?_); try simp only [x_tup0, x_tup1, x_tup2, x_tup3, x_tup4, x_tup5, and_true, true_and])))
    exact GH.le_trans k3 hle
theorem slipLaid_walk {H : Type} {enc : TypeId × Value → H} {W : World} {base : Nat} {v0 v1 v2 : Value} {d0 d1 d2 : DataW H} {p0 p1 p2 : List MemPlace}
    (hv0 : Value.okWide Try.prog W .any base 22 v0) (h0 : DataW.Trod enc Try.prog W 0 (fun _ => true) true 22 v0 d0 p0)
    (hv1 : Value.okWide Try.prog W .any base 22 v1) (h1 : DataW.Trod enc Try.prog W 0 (fun _ => true) true 22 v1 d1 p1)
    (hv2 : Value.okWide Try.prog W .any base 22 v2) (h2 : DataW.Trod enc Try.prog W 0 (fun _ => true) true 22 v2 d2 p2)
    (hsz : (DataW.weightsEach Try.prog [22, 22, 22] [d0, d1, d2]).all (· ≤ reachBytes) = true) :
    HC Try.prog 3 #[v0, v1, v2] (whole W) fun v G' => v = .bool true ∧ (whole W).le G' := by
  obtain ⟨a, ha, la⟩ := top_bytesL 0 Try.underlying22 Try.underlying5 (by kernel_rfl) (by kernel_rfl) hv0 h0 hsz rfl rfl
  obtain ⟨b, hb, lb⟩ := top_bytesL 1 Try.underlying22 Try.underlying5 (by kernel_rfl) (by kernel_rfl) hv1 h1 hsz rfl rfl
  obtain ⟨c, hc, lc⟩ := top_bytesL 2 Try.underlying22 Try.underlying5 (by kernel_rfl) (by kernel_rfl) hv2 h2 hsz rfl rfl
  exact law3 v0 v1 v2 a b c _ ha hb hc la
end Go.Proofs.Ytnddanaangolgaa.V
