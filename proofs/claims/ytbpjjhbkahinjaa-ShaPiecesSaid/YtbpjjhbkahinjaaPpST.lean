/- ShaPieces. -/
import Derived.Test.YtbpjjhbkahinjaaPpSQ
import Derived.Test.YtbpjjhbkahinjaaPpCE
import Derived.Test.YtbpjjhbkahinjaaPpC7
import Derived.Test.YtbpjjhbkahinjaaPpVM
set_option linter.unusedSimpArgs false
set_option linter.unusedVariables false
-- @extra s_nilPf s_nilPt s_nilNf s_nilNt s_nilck s_fptr0 s_eqDt s_eqDf
namespace Go.Proofs.Ytbpjjhbkahinjaa.V
open Go.RowKit Go.ChangeShapes Go.WideShapes
theorem one_partsC {G1 G : GH} {w pc : Value} {x : List UInt8} (h1 : By G pc x) (h2 : Own 1 G1 G w [pc]) : Parts G w [pc] [x] :=
  ⟨h2.sl, rfl, fun i hi => by
    have : i = 0 := by simpa using hi
    subst this
    exact ⟨pc, rfl, h1⟩⟩
theorem parts2 {G : GH} {w a b : Value} {x y : List UInt8} (h1 : By G a x) (h2 : By G b y) (h : Sl 1 G w [a, b]) : Parts G w [a, b] [x, y] :=
  ⟨h, rfl, fun i hi => by
    match i, hi with
    | 0, _ => exact ⟨a, rfl, h1⟩
    | 1, _ => exact ⟨b, rfl, h2⟩⟩
theorem parts3 {G : GH} {w a b c : Value} {x y z : List UInt8} (h1 : By G a x) (h2 : By G b y) (h3 : By G c z) (h : Sl 1 G w [a, b, c]) : Parts G w [a, b, c] [x, y, z] :=
  ⟨h, rfl, fun i hi => by
    match i, hi with
    | 0, _ => exact ⟨a, rfl, h1⟩
    | 1, _ => exact ⟨b, rfl, h2⟩
    | 2, _ => exact ⟨c, rfl, h3⟩⟩
theorem pm_of {ps : List (List UInt8)} {n : Nat} (h : ps.flatten.length ≤ n) (hn : n ≤ 140737488351232) : Pm ps := ⟨by omega, fun i hi => by
  have := flat_take hi
  have b := flat_len ps (i + 1)
  rw [this, List.length_append] at b
  omega⟩
theorem By.back {G H : GH} {u us : Value} {bs x : List UInt8} (hu : By G u bs) (hl : G.le H) (h : By H us x) (hb : blkS us = blkS u) (hx : x.length ≤ bs.length) : By G us x := by
  by_cases h0 : x = []
  · subst h0
    obtain ⟨a, cap, e1, e2, e3, e4, e5⟩ := Sl.slice h
    have hz : lenS us = 0 := by simpa using e4.symm
    refine ⟨?_, h.ok⟩
    rw [e1, hz]
    cases a with
    | none => rfl
    | some a =>
      obtain ⟨b, q, sp⟩ := a
      cases sp with
      | none => simp [rd]
      | some _ => rfl
  · refine h.keep fun c hc o ho => ?_
    obtain ⟨a, cap, e1, e2, e3, e4, e5⟩ := Sl.slice hu
    have hn : lenS u ≠ 0 := by
      have := By.len hu
      have : x.length ≠ 0 := fun e => h0 (List.eq_nil_of_length_eq_zero e)
      omega
    obtain ⟨b, q, e6⟩ := e5 hn
    have hc2 : b = c := by
      have h1 : blkS u = some b := by rw [e1, e6]; rfl
      rw [hb, h1] at hc; exact Option.some.inj hc
    subst hc2
    have hr := hu.rd
    rw [e1, e6] at hr
    rcases rd_some hr with ⟨h1, _⟩ | ⟨_, cs, e, fr, h1, _⟩
    · omega
    · have := hl _ _ h1
      rw [ho] at this; cases this; exact h1
theorem urem {a m : Nat} (h : m ≠ 0) : pureV (.bin .rem) [.int .u64 a, .int .u64 m] = some (.int .u64 ((a % m : Nat) : Int)) := by
  rw [x_rem, if_neg (by omega), Int.tmod_eq_emod_of_nonneg (by omega), ← Int.natCast_emod]
theorem cut3 (bs : List UInt8) {i k : Nat} (h : i ≤ k) : bs.take i ++ ((bs.drop i).take (k - i) ++ bs.drop k) = bs ∧ (bs.drop i).take (k - i) ++ bs.drop k = bs.drop i := by
  have e : (bs.drop i).take (k - i) ++ bs.drop k = bs.drop i := by
    have := List.take_append_drop (k - i) (bs.drop i)
    rw [List.drop_drop, show i + (k - i) = k by omega] at this
    exact this
  rw [e]; exact ⟨List.take_append_drop i bs, rfl⟩
set_option maxHeartbeats 1000000 in
theorem piecesT (u : Value) (bs : List UInt8) (i k : Nat) (G : GH) (hu : By G u bs) (hl : bs.length ≤ 140737488351232) (hi : i ≤ k) (hk : k ≤ bs.length) (sl : Nat → Value) (ll : Nat → Array Value) :
    vc Try.prog E7 (sndN 4 pc7) (endQ [.slot 6] fun v G' => v = .bool true ∧ G.le G') (S (SL.sets sl [(0, u), (1, .int .i64 i), (2, .int .i64 k)]) (AL.sets ll []) G) := by
  unfold pc7
  simp only [sndN, SL.sets, AL.sets]
  obtain ⟨c1, c2⟩ := cut3 bs hi
  (repeat' (first | (with_reducible refine i_ops ?_; first | (refine g_mv ?_; refine s_mv ?_) | refine o_nil ?_ | (refine g_some ?_; first | refine s_g_t ?_ | refine s_g_f ?_ | refine s_g_f' ?_ | refine s_g_u ?_) | (refine g_pick ?_; first | refine s_pick_t ?_ | refine s_pick_f ?_) | (refine g_len ?_; first | refine s_lenB ?_ | refine s_pure ?_) | (refine g_slc ?_; ((first | refine s_slcB ?_ | refine s_slcB01 ?_ | refine s_slcB10 ?_); intro us hus hbs)) | (refine g_pure ?_; first | refine s_nilPf ?_ | refine s_nilPt ?_ | refine s_nilNf ?_ | refine s_nilNt ?_ | refine s_nilck ?_ | refine s_fptr0 ?_ | refine s_eqDt ?_ | refine s_eqDf ?_ | refine s_pure ?_ | refine s_saddB ?_)) | (with_reducible refine i_vc ?_; first | refine v_seq ?_ | refine v_ops ?_ | (refine g_cond ?_; first | refine s_cond_t ?_ | refine s_cond_f ?_) | refine v_skip ?_ | refine v_ret ?_ | refine s_drawl ?_ | refine v_draw0 ?_) | (with_reducible refine i_plan ?_; first | refine p_done ?_ | refine s_pre ?_ | refine s_preN ?_ | refine s_ag_t ?_ | refine s_ag_f ?_ | refine s_alt ?_ | refine p_alt ?_ ?_) | (with_reducible first | refine n_then ?_ | refine r_then ?_ | refine e_then ?_ | (refine g_stand ?_; first | refine s_stand ?_ | refine s_standL ?_)) | ((with_reducible first | refine s_g_c ?_ ?_ | refine s_cond_c ?_ ?_ | refine s_tg_c ?_ ?_ | refine s_ag_c ?_ ?_) <;> intro hb <;> rw [hb] <;> (try simp only [decide_eq_true_eq, decide_eq_false_iff_not, beq_iff_eq, bne_iff_ne, beq_eq_false_iff_ne, bne_eq_false_iff_eq, ne_eq, Int.not_lt, Int.not_le, gt_iff_lt, ge_iff_le, Bool.not_eq_true', Bool.not_eq_false'] at hb)) | ((with_reducible first | refine s_ret ?_ | refine s_normal ?_); try simp only [x_tup0, x_tup1, x_tup2, x_tup3, x_tup4, x_tup5, and_true, true_and])))
  refine o_callc (by with_unfolding_all rfl) (newH G) ?_
  rintro p G1 ⟨g1, o1⟩
  obtain ⟨F1, d1, d2, d3⟩ := o1.toX
  obtain ⟨hb, _, rfl, _⟩ := o1
  (repeat' (first | (with_reducible refine i_ops ?_; first | (refine g_mv ?_; refine s_mv ?_) | refine o_nil ?_ | (refine g_some ?_; first | refine s_g_t ?_ | refine s_g_f ?_ | refine s_g_f' ?_ | refine s_g_u ?_) | (refine g_pick ?_; first | refine s_pick_t ?_ | refine s_pick_f ?_) | (refine g_len ?_; first | refine s_lenB ?_ | refine s_pure ?_) | (refine g_slc ?_; ((first | refine s_slcB ?_ | refine s_slcB01 ?_ | refine s_slcB10 ?_); intro us hus hbs)) | (refine g_pure ?_; first | refine s_nilPf ?_ | refine s_nilPt ?_ | refine s_nilNf ?_ | refine s_nilNt ?_ | refine s_nilck ?_ | refine s_fptr0 ?_ | refine s_eqDt ?_ | refine s_eqDf ?_ | refine s_pure ?_ | refine s_saddB ?_)) | (with_reducible refine i_vc ?_; first | refine v_seq ?_ | refine v_ops ?_ | (refine g_cond ?_; first | refine s_cond_t ?_ | refine s_cond_f ?_) | refine v_skip ?_ | refine v_ret ?_ | refine v_drawG G (by first | assumption | exact GH.le_refl _ | ((repeat (first | exact GH.le_refl _ | assumption | refine GH.le_trans ?_ (by assumption))); first | done | fail)) ?_) | (with_reducible refine i_plan ?_; first | refine p_done ?_ | refine s_preN ?_ | refine p_preG (by with_unfolding_all rfl) ?_ | refine s_ag_t ?_ | refine s_ag_f ?_ | refine s_alt ?_ | refine p_alt ?_ ?_) | (with_reducible first | refine n_then ?_ | refine r_then ?_ | refine e_then ?_ | (refine g_stand ?_; first | refine s_stand ?_ | refine s_standL ?_)) | (with_reducible refine k_back ?_) | ((with_reducible first | refine s_g_c ?_ ?_ | refine s_cond_c ?_ ?_ | refine s_tg_c ?_ ?_ | refine s_ag_c ?_ ?_) <;> intro hb <;> rw [hb] <;> (try simp only [decide_eq_true_eq, decide_eq_false_iff_not, beq_iff_eq, bne_iff_ne, beq_eq_false_iff_ne, bne_eq_false_iff_eq, ne_eq, Int.not_lt, Int.not_le, gt_iff_lt, ge_iff_le, Bool.not_eq_true', Bool.not_eq_false'] at hb)) | ((with_reducible first | refine s_ret ?_ | refine s_normal ?_); try simp only [x_tup0, x_tup1, x_tup2, x_tup3, x_tup4, x_tup5, and_true, true_and])))
  have hb1 : By G us (bs.take i) := By.back hu g1 hus hbs (by rw [List.length_take]; omega)
  clear hus hbs
  obtain ⟨xa, xn, xc, rfl⟩ := hb1.shape
  refine o_bsliceO (vs := [.slice xa xn xc]) (by with_unfolding_all rfl) rfl rfl rfl rfl rfl ?_
  intro w1 K1 k1 w1o _
  have hG1 := GH.le_trans g1 k1
  (repeat' (first | (with_reducible refine i_ops ?_; first | (refine g_mv ?_; refine s_mv ?_) | refine o_nil ?_ | (refine g_some ?_; first | refine s_g_t ?_ | refine s_g_f ?_ | refine s_g_f' ?_ | refine s_g_u ?_) | (refine g_pick ?_; first | refine s_pick_t ?_ | refine s_pick_f ?_) | (refine g_len ?_; first | refine s_lenB ?_ | refine s_pure ?_) | (refine g_slc ?_; ((first | refine s_slcB ?_ | refine s_slcB01 ?_ | refine s_slcB10 ?_); intro us hus hbs)) | (refine g_pure ?_; first | refine s_nilPf ?_ | refine s_nilPt ?_ | refine s_nilNf ?_ | refine s_nilNt ?_ | refine s_nilck ?_ | refine s_fptr0 ?_ | refine s_eqDt ?_ | refine s_eqDf ?_ | refine s_pure ?_ | refine s_saddB ?_)) | (with_reducible refine i_vc ?_; first | refine v_seq ?_ | refine v_ops ?_ | (refine g_cond ?_; first | refine s_cond_t ?_ | refine s_cond_f ?_) | refine v_skip ?_ | refine v_ret ?_ | refine v_drawG G (by first | assumption | exact GH.le_refl _ | ((repeat (first | exact GH.le_refl _ | assumption | refine GH.le_trans ?_ (by assumption))); first | done | fail)) ?_) | (with_reducible refine i_plan ?_; first | refine p_done ?_ | refine s_preN ?_ | refine p_preG (by with_unfolding_all rfl) ?_ | refine s_ag_t ?_ | refine s_ag_f ?_ | refine s_alt ?_ | refine p_alt ?_ ?_) | (with_reducible first | refine n_then ?_ | refine r_then ?_ | refine e_then ?_ | (refine g_stand ?_; first | refine s_stand ?_ | refine s_standL ?_)) | (with_reducible refine k_back ?_) | ((with_reducible first | refine s_g_c ?_ ?_ | refine s_cond_c ?_ ?_ | refine s_tg_c ?_ ?_ | refine s_ag_c ?_ ?_) <;> intro hb <;> rw [hb] <;> (try simp only [decide_eq_true_eq, decide_eq_false_iff_not, beq_iff_eq, bne_iff_ne, beq_eq_false_iff_ne, bne_eq_false_iff_eq, ne_eq, Int.not_lt, Int.not_le, gt_iff_lt, ge_iff_le, Bool.not_eq_true', Bool.not_eq_false'] at hb)) | ((with_reducible first | refine s_ret ?_ | refine s_normal ?_); try simp only [x_tup0, x_tup1, x_tup2, x_tup3, x_tup4, x_tup5, and_true, true_and])))
  refine o_callc (by with_unfolding_all rfl) (writeP (pt hb) w1 _ _ [] F1 G G1 K1 d1 d3 g1 d2 hb1 k1 w1o (by simp; omega) (by simp; omega)) ?_
  rintro _ K2 ⟨rfl, m1, F2, m2, m3, m4⟩
  rw [List.nil_append] at m4
  have hG2 : G.le K2 := GH.le_trans (le_off hG1 d2) m1
  have s2 : sep F2 G := m3.sub (le_off hG1 d2)
  clear m1 m3 d1 d2 d3 w1o k1
  (repeat' (first | (with_reducible refine i_ops ?_; first | (refine g_mv ?_; refine s_mv ?_) | refine o_nil ?_ | (refine g_some ?_; first | refine s_g_t ?_ | refine s_g_f ?_ | refine s_g_f' ?_ | refine s_g_u ?_) | (refine g_pick ?_; first | refine s_pick_t ?_ | refine s_pick_f ?_) | (refine g_len ?_; first | refine s_lenB ?_ | refine s_pure ?_) | (refine g_slc ?_; ((first | refine s_slcB ?_ | refine s_slcB01 ?_ | refine s_slcB10 ?_); intro us hus hbs)) | (refine g_pure ?_; first | refine s_nilPf ?_ | refine s_nilPt ?_ | refine s_nilNf ?_ | refine s_nilNt ?_ | refine s_nilck ?_ | refine s_fptr0 ?_ | refine s_eqDt ?_ | refine s_eqDf ?_ | refine s_pure ?_ | refine s_saddB ?_)) | (with_reducible refine i_vc ?_; first | refine v_seq ?_ | refine v_ops ?_ | (refine g_cond ?_; first | refine s_cond_t ?_ | refine s_cond_f ?_) | refine v_skip ?_ | refine v_ret ?_ | refine v_drawG G (by first | assumption | exact GH.le_refl _ | ((repeat (first | exact GH.le_refl _ | assumption | refine GH.le_trans ?_ (by assumption))); first | done | fail)) ?_) | (with_reducible refine i_plan ?_; first | refine p_done ?_ | refine s_preN ?_ | refine p_preG (by with_unfolding_all rfl) ?_ | refine s_ag_t ?_ | refine s_ag_f ?_ | refine s_alt ?_ | refine p_alt ?_ ?_) | (with_reducible first | refine n_then ?_ | refine r_then ?_ | refine e_then ?_ | (refine g_stand ?_; first | refine s_stand ?_ | refine s_standL ?_)) | (with_reducible refine k_back ?_) | ((with_reducible first | refine s_g_c ?_ ?_ | refine s_cond_c ?_ ?_ | refine s_tg_c ?_ ?_ | refine s_ag_c ?_ ?_) <;> intro hb <;> rw [hb] <;> (try simp only [decide_eq_true_eq, decide_eq_false_iff_not, beq_iff_eq, bne_iff_ne, beq_eq_false_iff_ne, bne_eq_false_iff_eq, ne_eq, Int.not_lt, Int.not_le, gt_iff_lt, ge_iff_le, Bool.not_eq_true', Bool.not_eq_false'] at hb)) | ((with_reducible first | refine s_ret ?_ | refine s_normal ?_); try simp only [x_tup0, x_tup1, x_tup2, x_tup3, x_tup4, x_tup5, and_true, true_and])))
  rename_i us0 hus0 hbs0
  have r2 : By G us0 ((bs.drop i).take (k - i)) := By.back hu hG2 (by simpa using hus0) hbs0 (by rw [List.length_take, List.length_drop]; omega)
  have r3 : By G us (bs.drop k) := By.back hu hG2 (by simpa using hus) hbs (by rw [List.length_drop]; omega)
  clear hus hus0 hbs hbs0 hb1
  obtain ⟨xa, xn, xc, rfl⟩ := r2.shape
  obtain ⟨ya, yn, yc, rfl⟩ := r3.shape
  refine o_bsliceO (vs := [.slice xa xn xc, .slice ya yn yc]) (by with_unfolding_all rfl) rfl rfl rfl rfl rfl ?_
  intro w3 K3 k3 w3o _
  have hG3 := GH.le_trans hG2 k3
  (repeat' (first | (with_reducible refine i_ops ?_; first | (refine g_mv ?_; refine s_mv ?_) | refine o_nil ?_ | (refine g_some ?_; first | refine s_g_t ?_ | refine s_g_f ?_ | refine s_g_f' ?_ | refine s_g_u ?_) | (refine g_pick ?_; first | refine s_pick_t ?_ | refine s_pick_f ?_) | (refine g_len ?_; first | refine s_lenB ?_ | refine s_pure ?_) | (refine g_slc ?_; ((first | refine s_slcB ?_ | refine s_slcB01 ?_ | refine s_slcB10 ?_); intro us hus hbs)) | (refine g_pure ?_; first | refine s_nilPf ?_ | refine s_nilPt ?_ | refine s_nilNf ?_ | refine s_nilNt ?_ | refine s_nilck ?_ | refine s_fptr0 ?_ | refine s_eqDt ?_ | refine s_eqDf ?_ | refine s_pure ?_ | refine s_saddB ?_)) | (with_reducible refine i_vc ?_; first | refine v_seq ?_ | refine v_ops ?_ | (refine g_cond ?_; first | refine s_cond_t ?_ | refine s_cond_f ?_) | refine v_skip ?_ | refine v_ret ?_ | refine v_drawG G (by first | assumption | exact GH.le_refl _ | ((repeat (first | exact GH.le_refl _ | assumption | refine GH.le_trans ?_ (by assumption))); first | done | fail)) ?_) | (with_reducible refine i_plan ?_; first | refine p_done ?_ | refine s_preN ?_ | refine p_preG (by with_unfolding_all rfl) ?_ | refine s_ag_t ?_ | refine s_ag_f ?_ | refine s_alt ?_ | refine p_alt ?_ ?_) | (with_reducible first | refine n_then ?_ | refine r_then ?_ | refine e_then ?_ | (refine g_stand ?_; first | refine s_stand ?_ | refine s_standL ?_)) | (with_reducible refine k_back ?_) | ((with_reducible first | refine s_g_c ?_ ?_ | refine s_cond_c ?_ ?_ | refine s_tg_c ?_ ?_ | refine s_ag_c ?_ ?_) <;> intro hb <;> rw [hb] <;> (try simp only [decide_eq_true_eq, decide_eq_false_iff_not, beq_iff_eq, bne_iff_ne, beq_eq_false_iff_ne, bne_eq_false_iff_eq, ne_eq, Int.not_lt, Int.not_le, gt_iff_lt, ge_iff_le, Bool.not_eq_true', Bool.not_eq_false'] at hb)) | ((with_reducible first | refine s_ret ?_ | refine s_normal ?_); try simp only [x_tup0, x_tup1, x_tup2, x_tup3, x_tup4, x_tup5, and_true, true_and])))
  have hF3 := GH.le_trans m2 k3
  have hP : Parts (off F2 K3) w3 [.slice xa xn xc, .slice ya yn yc] [(bs.drop i).take (k - i), bs.drop k] := parts2 (Sl.le r2 (le_off hG3 s2)) (Sl.le r3 (le_off hG3 s2)) (w3o.out m2).sl
  have hfl : [(bs.drop i).take (k - i), bs.drop k].flatten = bs.drop i := by simp only [List.flatten_cons, List.flatten_nil, List.append_nil]; exact c2
  have hfll : [(bs.drop i).take (k - i), bs.drop k].flatten.length ≤ bs.length := by rw [hfl, List.length_drop]; omega
  refine o_callc (by with_unfolding_all rfl) (writeX (pt hb) w3 _ _ _ F2 K3 hF3 m4 hP (by rw [List.length_take]; omega) (fun j hj => by have := (pm_of hfll hl).2 j hj; omega)) ?_
  rintro _ K4 ⟨rfl, m5, F3, m6, m7, m8⟩
  rw [hfl, List.take_append_drop] at m8
  have hG4 : G.le K4 := GH.le_trans (le_off hG3 s2) m5
  clear m5 m7 hP w3o hF3 m4 m2 s2 k3 hG3 hG2
  (repeat' (first | (with_reducible refine i_ops ?_; first | (refine g_mv ?_; refine s_mv ?_) | refine o_nil ?_ | (refine g_some ?_; first | refine s_g_t ?_ | refine s_g_f ?_ | refine s_g_f' ?_ | refine s_g_u ?_) | (refine g_pick ?_; first | refine s_pick_t ?_ | refine s_pick_f ?_) | (refine g_len ?_; first | refine s_lenB ?_ | refine s_pure ?_) | (refine g_slc ?_; ((first | refine s_slcB ?_ | refine s_slcB01 ?_ | refine s_slcB10 ?_); intro us hus hbs)) | (refine g_pure ?_; first | refine s_nilPf ?_ | refine s_nilPt ?_ | refine s_nilNf ?_ | refine s_nilNt ?_ | refine s_nilck ?_ | refine s_fptr0 ?_ | refine s_eqDt ?_ | refine s_eqDf ?_ | refine s_pure ?_ | refine s_saddB ?_)) | (with_reducible refine i_vc ?_; first | refine v_seq ?_ | refine v_ops ?_ | (refine g_cond ?_; first | refine s_cond_t ?_ | refine s_cond_f ?_) | refine v_skip ?_ | refine v_ret ?_ | refine v_drawG G (by first | assumption | exact GH.le_refl _ | ((repeat (first | exact GH.le_refl _ | assumption | refine GH.le_trans ?_ (by assumption))); first | done | fail)) ?_) | (with_reducible refine i_plan ?_; first | refine p_done ?_ | refine s_preN ?_ | refine p_preG (by with_unfolding_all rfl) ?_ | refine s_ag_t ?_ | refine s_ag_f ?_ | refine s_alt ?_ | refine p_alt ?_ ?_) | (with_reducible first | refine n_then ?_ | refine r_then ?_ | refine e_then ?_ | (refine g_stand ?_; first | refine s_stand ?_ | refine s_standL ?_)) | (with_reducible refine k_back ?_) | ((with_reducible first | refine s_g_c ?_ ?_ | refine s_cond_c ?_ ?_ | refine s_tg_c ?_ ?_ | refine s_ag_c ?_ ?_) <;> intro hb <;> rw [hb] <;> (try simp only [decide_eq_true_eq, decide_eq_false_iff_not, beq_iff_eq, bne_iff_ne, beq_eq_false_iff_ne, bne_eq_false_iff_eq, ne_eq, Int.not_lt, Int.not_le, gt_iff_lt, ge_iff_le, Bool.not_eq_true', Bool.not_eq_false'] at hb)) | ((with_reducible first | refine s_ret ?_ | refine s_normal ?_); try simp only [x_tup0, x_tup1, x_tup2, x_tup3, x_tup4, x_tup5, and_true, true_and])))
  have hu4 : By K4 u bs := Sl.le hu hG4
  obtain ⟨ua, un, uc, rfl⟩ := hu.shape
  refine v_flow [(49, .val (.slice ua un uc)),
    (50, .is fun v G => ∃ us, Parts G v us [bs]),
    (51, .val (dV (dig bs))),
    (52, .val (.slice ua un uc)),
    (53, .val (.int .i64 i)),
    (54, .is fun v G => By G v (bs.take i)),
    (55, .val (.slice ua un uc)),
    (56, .val (.int .i64 i)),
    (57, .val (.int .i64 k)),
    (58, .is fun v G => By G v ((bs.drop i).take (k - i))),
    (59, .val (.slice ua un uc)),
    (60, .val (.int .i64 k)),
    (61, .is fun v G => By G v (bs.drop k)),
    (62, .is fun v G => ∃ us, Parts G v us [bs.take i, (bs.drop i).take (k - i), bs.drop k]),
    (63, .val (dV (dig bs))),
    (64, .val (.bool true)),
    (65, .val (.bool true)),
    (66, .val (pt hb)),
    (67, .val (dV (dig bs))),
    (68, .val (.slice ua un uc)),
    (69, .is fun v G => ∃ us, Parts G v us [bs]),
    (70, .val (dV (dig bs))),
    (71, .val (.bool true)),
    (72, .val (.bool true)),
    (73, .val (.bool true)),
    (74, .val (.slice ua un uc)),
    (75, .val (.int .i64 i)),
    (76, .is fun v G => By G v (bs.take i)),
    (77, .val (.slice ua un uc)),
    (78, .val (.int .i64 i)),
    (79, .is fun v G => By G v (bs.drop i)),
    (80, .is fun v G => ∃ us, Parts G v us [bs.drop i]),
    (81, .val (dV (mac (bs.take i) (bs.drop i)))),
    (82, .val (.slice ua un uc)),
    (83, .val (.int .i64 i)),
    (84, .is fun v G => By G v (bs.take i)),
    (85, .val (.slice ua un uc)),
    (86, .val (.int .i64 i)),
    (87, .val (.int .i64 k)),
    (88, .is fun v G => By G v ((bs.drop i).take (k - i))),
    (89, .val (.slice ua un uc)),
    (90, .val (.int .i64 k)),
    (91, .is fun v G => By G v (bs.drop k)),
    (92, .is fun v G => ∃ us, Parts G v us [(bs.drop i).take (k - i), [], bs.drop k]),
    (93, .val (dV (mac (bs.take i) (bs.drop i)))),
    (94, .val (.bool true)),
    (95, .val (.bool true)),
    (96, .val (.bool true)),
    (97, .val (.bool true)),
    (98, .val (.bool true)),
    (6, .val (.bool true))]
    [(0, .slice ua un uc), (1, .int .i64 i), (2, .int .i64 k), (8, pt hb)] [] [50] (by refine ⟨SL.get_fn (by with_unfolding_all rfl), SL.get_fn (by with_unfolding_all rfl), SL.get_fn (by with_unfolding_all rfl), SL.get_fn (by with_unfolding_all rfl), trivial⟩) trivial rfl rfl ?_ ?_ ?_
  · exact ⟨fun v G G' ⟨us, h⟩ hl => ⟨us, h.le hl⟩, fun v G G' h hl => Sl.le h hl, fun v G G' h hl => Sl.le h hl, fun v G G' h hl => Sl.le h hl, fun v G G' ⟨us, h⟩ hl => ⟨us, h.le hl⟩, fun v G G' ⟨us, h⟩ hl => ⟨us, h.le hl⟩, fun v G G' h hl => Sl.le h hl, fun v G G' h hl => Sl.le h hl, fun v G G' ⟨us, h⟩ hl => ⟨us, h.le hl⟩, fun v G G' h hl => Sl.le h hl, fun v G G' h hl => Sl.le h hl, fun v G G' h hl => Sl.le h hl, fun v G G' ⟨us, h⟩ hl => ⟨us, h.le hl⟩, trivial⟩
  · (repeat' (first | exact flowObl_nil | refine flowObl_cons ?_ ?_)); all_goals (intro sl ll G' hle; (repeat' (first | refine dA_val (by with_unfolding_all rfl) ?_ | (refine dA_is (by with_unfolding_all rfl) ?_; intro v hv))); refine dA_nil ?_; dsimp only [SL.sets, AL.sets])
    all_goals (repeat' (first | (with_reducible refine i_ops ?_; first | (refine g_mv ?_; refine s_mv ?_) | refine o_nil ?_ | (refine g_some ?_; first | refine s_g_t ?_ | refine s_g_f ?_ | refine s_g_f' ?_ | refine s_g_u ?_) | (refine g_pick ?_; first | refine s_pick_t ?_ | refine s_pick_f ?_) | (refine g_len ?_; first | refine s_lenB ?_ | refine s_pure ?_) | (refine g_slc ?_; ((first | refine s_slcB ?_ | refine s_slcB01 ?_ | refine s_slcB10 ?_); intro us hus hbs)) | (refine g_pure ?_; first | refine s_nilPf ?_ | refine s_nilPt ?_ | refine s_nilNf ?_ | refine s_nilNt ?_ | refine s_nilck ?_ | refine s_fptr0 ?_ | refine s_eqDt ?_ | refine s_eqDf ?_ | refine s_pure ?_ | refine s_saddB ?_)) | (with_reducible refine i_vc ?_; first | refine v_seq ?_ | refine v_ops ?_ | (refine g_cond ?_; first | refine s_cond_t ?_ | refine s_cond_f ?_) | refine v_skip ?_ | refine v_ret ?_ | refine s_drawl ?_ | refine v_draw0 ?_) | (with_reducible refine i_plan ?_; first | refine p_done ?_ | refine s_pre ?_ | refine s_preN ?_ | refine s_ag_t ?_ | refine s_ag_f ?_ | refine s_alt ?_ | refine p_alt ?_ ?_) | (with_reducible first | refine n_then ?_ | refine r_then ?_ | refine e_then ?_ | (refine g_stand ?_; first | refine s_stand ?_ | refine s_standL ?_)) | ((with_reducible first | refine s_g_c ?_ ?_ | refine s_cond_c ?_ ?_ | refine s_tg_c ?_ ?_ | refine s_ag_c ?_ ?_) <;> intro hb <;> rw [hb] <;> (try simp only [decide_eq_true_eq, decide_eq_false_iff_not, beq_iff_eq, bne_iff_ne, beq_eq_false_iff_ne, bne_eq_false_iff_eq, ne_eq, Int.not_lt, Int.not_le, gt_iff_lt, ge_iff_le, Bool.not_eq_true', Bool.not_eq_false'] at hb)) | ((with_reducible first | refine s_ret ?_ | refine s_normal ?_); try simp only [x_tup0, x_tup1, x_tup2, x_tup3, x_tup4, x_tup5, and_true, true_and])))
    all_goals try exact flow_end (GH.le_refl _) rfl
    · refine o_bsliceO (vs := [.slice ua un uc]) (by with_unfolding_all rfl) rfl rfl rfl rfl rfl ?_
      intro x Gx hx ho _
      refine o_nil ?_
      exact flow_end hx ⟨_, one_partsC (Sl.le hu (GH.le_trans hG4 (GH.le_trans hle hx))) ho⟩
    · obtain ⟨us, hv⟩ := hv
      refine o_callc (by with_unfolding_all rfl) (sumP v us _ G' hv (pm_of (n := bs.length) (by simp) hl)) ?_
      rintro _ G2 ⟨rfl, h2⟩
      refine o_nil ?_
      exact flow_end h2 (by show dV (dig _) = dV (dig _); congr 2; simp)
    · exact flow_end (GH.le_refl _) (by simp only [Int.toNat_natCast] at hus; exact hus)
    · exact flow_end (GH.le_refl _) (by simp only [Int.toNat_natCast] at hus; exact hus)
    · exact flow_end (GH.le_refl _) (by simp only [Int.toNat_natCast] at hus; exact hus)
    · rename_i va ha vb hb'
      obtain ⟨aa, an, ac, rfl⟩ := ha.shape
      obtain ⟨ba, bn, bc, rfl⟩ := hb'.shape
      obtain ⟨ca, cn, cc, rfl⟩ := hv.shape
      refine o_bsliceO (vs := [.slice aa an ac, .slice ba bn bc, .slice ca cn cc]) (by with_unfolding_all rfl) rfl rfl rfl rfl rfl ?_
      intro x Gx hx ho _
      refine o_nil ?_
      exact flow_end hx ⟨_, parts3 (Sl.le ha hx) (Sl.le hb' hx) (Sl.le hv hx) ho.sl⟩
    · obtain ⟨us, hv⟩ := hv
      have hfl : [bs.take i, (bs.drop i).take (k - i), bs.drop k].flatten = bs := by simp only [List.flatten_cons, List.flatten_nil, List.append_nil]; exact c1
      refine o_callc (by with_unfolding_all rfl) (sumP v us _ G' hv (pm_of (n := bs.length) (by rw [hfl]; exact Nat.le_refl _) hl)) ?_
      rintro _ G2 ⟨rfl, h2⟩
      refine o_nil ?_
      exact flow_end h2 (by show dV (dig _) = dV (dig _); rw [hfl])
    · refine o_callc (by with_unfolding_all rfl) (sumH (pt hb) bs (off F3 G') G' (off_le _ _) (m8 G' (GH.le_trans m6 hle)) (by omega)) ?_
      rintro _ G2 ⟨rfl, h2⟩
      refine o_nil ?_
      exact flow_end h2 rfl
    · refine o_bsliceO (vs := [.slice ua un uc]) (by with_unfolding_all rfl) rfl rfl rfl rfl rfl ?_
      intro x Gx hx ho _
      refine o_nil ?_
      exact flow_end hx ⟨_, one_partsC (Sl.le hu (GH.le_trans hG4 (GH.le_trans hle hx))) ho⟩
    · obtain ⟨us, hv⟩ := hv
      refine o_callc (by with_unfolding_all rfl) (sumP v us _ G' hv (pm_of (n := bs.length) (by simp) hl)) ?_
      rintro _ G2 ⟨rfl, h2⟩
      refine o_nil ?_
      exact flow_end h2 (by show dV (dig _) = dV (dig _); congr 2; simp)
    · exact flow_end (GH.le_refl _) (by simp only [Int.toNat_natCast] at hus; exact hus)
    · exact flow_end (GH.le_refl _) (by simp only [Int.toNat_natCast] at hus; exact hus)
    · obtain ⟨ca, cn, cc, rfl⟩ := hv.shape
      refine o_bsliceO (vs := [.slice ca cn cc]) (by with_unfolding_all rfl) rfl rfl rfl rfl rfl ?_
      intro x Gx hx ho _
      refine o_nil ?_
      exact flow_end hx ⟨_, one_partsC (Sl.le hv hx) ho⟩
    · rename_i va ha
      obtain ⟨us, hv⟩ := hv
      refine o_callc (by with_unfolding_all rfl) (macP va v (bs.take i) us _ G' ha hv (by rw [List.length_take]; omega) (pm_of (n := bs.length) (by rw [show [bs.drop i].flatten = bs.drop i by simp, List.length_drop]; omega) hl)) ?_
      rintro _ G2 ⟨rfl, h2⟩
      refine o_nil ?_
      exact flow_end h2 (by show dV (mac _ _) = dV (mac _ _); congr 2; simp)
    · exact flow_end (GH.le_refl _) (by simp only [Int.toNat_natCast] at hus; exact hus)
    · exact flow_end (GH.le_refl _) (by simp only [Int.toNat_natCast] at hus; exact hus)
    · exact flow_end (GH.le_refl _) (by simp only [Int.toNat_natCast] at hus; exact hus)
    · rename_i va ha
      obtain ⟨aa, an, ac, rfl⟩ := ha.shape
      obtain ⟨ca, cn, cc, rfl⟩ := hv.shape
      refine o_bsliceO (vs := [.slice aa an ac, .slice none 0 0, .slice ca cn cc]) (by with_unfolding_all rfl) rfl rfl rfl rfl rfl ?_
      intro x Gx hx ho _
      refine o_nil ?_
      exact flow_end hx ⟨_, parts3 (Sl.le ha hx) (Sl.nil 1 _) (Sl.le hv hx) ho.sl⟩
    · rename_i va ha
      obtain ⟨us, hv⟩ := hv
      have hfl : [(bs.drop i).take (k - i), [], bs.drop k].flatten = bs.drop i := by simp only [List.flatten_cons, List.flatten_nil, List.append_nil, List.nil_append]; exact c2
      refine o_callc (by with_unfolding_all rfl) (macP va v (bs.take i) us _ G' ha hv (by rw [List.length_take]; omega) (pm_of (n := bs.length) (by rw [hfl, List.length_drop]; omega) hl)) ?_
      rintro _ G2 ⟨rfl, h2⟩
      refine o_nil ?_
      exact flow_end h2 (by show dV (mac _ _) = dV (mac _ _); rw [hfl])
    · refine o_callc (by with_unfolding_all rfl) (worksP G') ?_
      rintro _ G2 ⟨rfl, h2⟩
      refine o_nil ?_
      exact flow_end h2 rfl
  · intro sl ll G' hle
    (repeat' (first | refine dA_val (by with_unfolding_all rfl) ?_ | (refine dA_is (by with_unfolding_all rfl) ?_; intro v hv))); refine dA_nil ?_; dsimp only [SL.sets, AL.sets]
    (repeat' (first | (with_reducible refine i_ops ?_; first | (refine g_mv ?_; refine s_mv ?_) | refine o_nil ?_ | (refine g_some ?_; first | refine s_g_t ?_ | refine s_g_f ?_ | refine s_g_f' ?_ | refine s_g_u ?_) | (refine g_pick ?_; first | refine s_pick_t ?_ | refine s_pick_f ?_) | (refine g_len ?_; first | refine s_lenB ?_ | refine s_pure ?_) | (refine g_slc ?_; ((first | refine s_slcB ?_ | refine s_slcB01 ?_ | refine s_slcB10 ?_); intro us hus hbs)) | (refine g_pure ?_; first | refine s_nilPf ?_ | refine s_nilPt ?_ | refine s_nilNf ?_ | refine s_nilNt ?_ | refine s_nilck ?_ | refine s_fptr0 ?_ | refine s_eqDt ?_ | refine s_eqDf ?_ | refine s_pure ?_ | refine s_saddB ?_)) | (with_reducible refine i_vc ?_; first | refine v_seq ?_ | refine v_ops ?_ | (refine g_cond ?_; first | refine s_cond_t ?_ | refine s_cond_f ?_) | refine v_skip ?_ | refine v_ret ?_ | refine s_drawl ?_ | refine v_draw0 ?_) | (with_reducible refine i_plan ?_; first | refine p_done ?_ | refine s_pre ?_ | refine s_preN ?_ | refine s_ag_t ?_ | refine s_ag_f ?_ | refine s_alt ?_ | refine p_alt ?_ ?_) | (with_reducible first | refine n_then ?_ | refine r_then ?_ | refine e_then ?_ | (refine g_stand ?_; first | refine s_stand ?_ | refine s_standL ?_)) | ((with_reducible first | refine s_g_c ?_ ?_ | refine s_cond_c ?_ ?_ | refine s_tg_c ?_ ?_ | refine s_ag_c ?_ ?_) <;> intro hb <;> rw [hb] <;> (try simp only [decide_eq_true_eq, decide_eq_false_iff_not, beq_iff_eq, bne_iff_ne, beq_eq_false_iff_ne, bne_eq_false_iff_eq, ne_eq, Int.not_lt, Int.not_le, gt_iff_lt, ge_iff_le, Bool.not_eq_true', Bool.not_eq_false'] at hb)) | ((with_reducible first | refine s_ret ?_ | refine s_normal ?_); try simp only [x_tup0, x_tup1, x_tup2, x_tup3, x_tup4, x_tup5, and_true, true_and])))
    exact GH.le_trans hG4 hle
set_option maxHeartbeats 1000000 in
theorem piecesP (u : Value) (bs : List UInt8) (i0 k0 : Int) (G : GH) (hu : By G u bs) (hl : bs.length ≤ 140737488351232) :
    HC Try.prog 7 #[u, .int .i64 i0, .int .i64 k0] G fun v G' => v = .bool true ∧ G.le G' := by
  have hT := fun i k h1 h2 s l => piecesT u bs i k G hu hl h1 h2 s l
  unfold pc7 at hT
  simp only [sndN, SL.sets, AL.sets] at hT
  obtain ⟨a, ha⟩ : ∃ a : Nat, IntKind.u64.wrap i0 = a := ⟨(i0 % 18446744073709551616).toNat, by rw [wrap_u64]; omega⟩
  obtain ⟨c, hc⟩ : ∃ c : Nat, IntKind.u64.wrap k0 = c := ⟨(k0 % 18446744073709551616).toNat, by rw [wrap_u64]; omega⟩
  have hw : IntKind.u64.wrap (IntKind.u64.wrap (bs.length : Int) + 1) = ((bs.length + 1 : Nat) : Int) := by rw [wrap_u64, wrap_u64]; omega
  refine HC.start comp7 rfl ?_; unfold pc7
  (repeat' (first | (with_reducible refine i_ops ?_; first | (refine g_mv ?_; refine s_mv ?_) | refine o_nil ?_ | (refine g_some ?_; first | refine s_g_t ?_ | refine s_g_f ?_ | refine s_g_f' ?_ | refine s_g_u ?_) | (refine g_pick ?_; first | refine s_pick_t ?_ | refine s_pick_f ?_) | (refine g_len ?_; first | refine s_lenB ?_ | refine s_pure ?_) | (refine g_slc ?_; ((first | refine s_slcB ?_ | refine s_slcB01 ?_ | refine s_slcB10 ?_); intro us hus hbs)) | (refine g_pure ?_; first | refine s_nilPf ?_ | refine s_nilPt ?_ | refine s_nilNf ?_ | refine s_nilNt ?_ | refine s_nilck ?_ | refine s_fptr0 ?_ | refine s_eqDt ?_ | refine s_eqDf ?_ | refine s_pure ?_ | refine s_saddB ?_)) | (with_reducible refine i_vc ?_; first | refine v_seq ?_ | refine v_ops ?_ | (refine g_cond ?_; first | refine s_cond_t ?_ | refine s_cond_f ?_) | refine v_skip ?_ | refine v_ret ?_ | refine s_drawl ?_ | refine v_draw0 ?_) | (with_reducible refine i_plan ?_; first | refine p_done ?_ | refine s_pre ?_ | refine s_preN ?_ | refine s_ag_t ?_ | refine s_ag_f ?_ | refine s_alt ?_ | refine p_alt ?_ ?_) | (with_reducible first | refine n_then ?_ | refine r_then ?_ | refine e_then ?_ | (refine g_stand ?_; first | refine s_stand ?_ | refine s_standL ?_)) | ((with_reducible first | refine s_g_c ?_ ?_ | refine s_cond_c ?_ ?_ | refine s_tg_c ?_ ?_ | refine s_ag_c ?_ ?_) <;> intro hb <;> rw [hb] <;> (try simp only [decide_eq_true_eq, decide_eq_false_iff_not, beq_iff_eq, bne_iff_ne, beq_eq_false_iff_ne, bne_eq_false_iff_eq, ne_eq, Int.not_lt, Int.not_le, gt_iff_lt, ge_iff_le, Bool.not_eq_true', Bool.not_eq_false'] at hb)) | ((with_reducible first | refine s_ret ?_ | refine s_normal ?_); try simp only [x_tup0, x_tup1, x_tup2, x_tup3, x_tup4, x_tup5, and_true, true_and])))
  rw [ha, hw]
  refine o_pure (v := .int .u64 ((a % (bs.length + 1) : Nat) : Int)) (by with_unfolding_all rfl) (urem (by omega)) ?_
  obtain ⟨i, hi, hil⟩ : ∃ i, i = a % (bs.length + 1) ∧ i ≤ bs.length := ⟨_, rfl, Nat.le_of_lt_succ (Nat.mod_lt _ (by omega))⟩
  rw [← hi]
  have hwi : IntKind.i64.wrap (i : Int) = i := wrap_i64 (by omega) (by omega)
  (repeat' (first | (with_reducible refine i_ops ?_; first | (refine g_mv ?_; refine s_mv ?_) | refine o_nil ?_ | (refine g_some ?_; first | refine s_g_t ?_ | refine s_g_f ?_ | refine s_g_f' ?_ | refine s_g_u ?_) | (refine g_pick ?_; first | refine s_pick_t ?_ | refine s_pick_f ?_) | (refine g_len ?_; first | refine s_lenB ?_ | refine s_pure ?_) | (refine g_slc ?_; ((first | refine s_slcB ?_ | refine s_slcB01 ?_ | refine s_slcB10 ?_); intro us hus hbs)) | (refine g_pure ?_; first | refine s_nilPf ?_ | refine s_nilPt ?_ | refine s_nilNf ?_ | refine s_nilNt ?_ | refine s_nilck ?_ | refine s_fptr0 ?_ | refine s_eqDt ?_ | refine s_eqDf ?_ | refine s_pure ?_ | refine s_saddB ?_)) | (with_reducible refine i_vc ?_; first | refine v_seq ?_ | refine v_ops ?_ | (refine g_cond ?_; first | refine s_cond_t ?_ | refine s_cond_f ?_) | refine v_skip ?_ | refine v_ret ?_ | refine s_drawl ?_ | refine v_draw0 ?_) | (with_reducible refine i_plan ?_; first | refine p_done ?_ | refine s_pre ?_ | refine s_preN ?_ | refine s_ag_t ?_ | refine s_ag_f ?_ | refine s_alt ?_ | refine p_alt ?_ ?_) | (with_reducible first | refine n_then ?_ | refine r_then ?_ | refine e_then ?_ | (refine g_stand ?_; first | refine s_stand ?_ | refine s_standL ?_)) | ((with_reducible first | refine s_g_c ?_ ?_ | refine s_cond_c ?_ ?_ | refine s_tg_c ?_ ?_ | refine s_ag_c ?_ ?_) <;> intro hb <;> rw [hb] <;> (try simp only [decide_eq_true_eq, decide_eq_false_iff_not, beq_iff_eq, bne_iff_ne, beq_eq_false_iff_ne, bne_eq_false_iff_eq, ne_eq, Int.not_lt, Int.not_le, gt_iff_lt, ge_iff_le, Bool.not_eq_true', Bool.not_eq_false'] at hb)) | ((with_reducible first | refine s_ret ?_ | refine s_normal ?_); try simp only [x_tup0, x_tup1, x_tup2, x_tup3, x_tup4, x_tup5, and_true, true_and])))
  rw [hc]
  refine o_pure (v := .int .u64 ((c % (bs.length + 1) : Nat) : Int)) (by with_unfolding_all rfl) (urem (by omega)) ?_
  obtain ⟨k, hk, hkl⟩ : ∃ k, k = c % (bs.length + 1) ∧ k ≤ bs.length := ⟨_, rfl, Nat.le_of_lt_succ (Nat.mod_lt _ (by omega))⟩
  rw [← hk]
  have hwk : IntKind.i64.wrap (k : Int) = k := wrap_i64 (by omega) (by omega)
  refine s_pure ?_
  (repeat (first | (with_reducible refine i_ops ?_; first | (refine g_mv ?_; refine s_mv ?_) | refine o_nil ?_) | (with_reducible refine i_vc ?_; first | refine v_seq ?_ | refine v_ops ?_ | (refine g_cond ?_; first | refine s_cond_t ?_ | refine s_cond_f ?_) | refine v_skip ?_ | refine v_ret ?_ | refine s_drawl ?_ | refine v_draw0 ?_) | (with_reducible first | refine n_then ?_ | refine r_then ?_ | refine e_then ?_ | (refine g_stand ?_; first | refine s_stand ?_ | refine s_standL ?_))))
  generalize hQ : thenQ (vc Try.prog E7 _ (endQ _ _)) (endQ _ _) = Q'
  (repeat' (first | (with_reducible refine i_ops ?_; first | (refine g_mv ?_; refine s_mv ?_) | refine o_nil ?_ | (refine g_some ?_; first | refine s_g_t ?_ | refine s_g_f ?_ | refine s_g_f' ?_ | refine s_g_u ?_) | (refine g_pick ?_; first | refine s_pick_t ?_ | refine s_pick_f ?_) | (refine g_len ?_; first | refine s_lenB ?_ | refine s_pure ?_) | (refine g_slc ?_; ((first | refine s_slcB ?_ | refine s_slcB01 ?_ | refine s_slcB10 ?_); intro us hus hbs)) | (refine g_pure ?_; first | refine s_nilPf ?_ | refine s_nilPt ?_ | refine s_nilNf ?_ | refine s_nilNt ?_ | refine s_nilck ?_ | refine s_fptr0 ?_ | refine s_eqDt ?_ | refine s_eqDf ?_ | refine s_pure ?_ | refine s_saddB ?_)) | (with_reducible refine i_vc ?_; first | refine v_seq ?_ | refine v_ops ?_ | (refine g_cond ?_; first | refine s_cond_t ?_ | refine s_cond_f ?_) | refine v_skip ?_ | refine v_ret ?_ | refine s_drawl ?_ | refine v_draw0 ?_) | (with_reducible refine i_plan ?_; first | refine p_done ?_ | refine s_pre ?_ | refine s_preN ?_ | refine s_ag_t ?_ | refine s_ag_f ?_ | refine s_alt ?_ | refine p_alt ?_ ?_) | (with_reducible first | refine n_then ?_ | refine r_then ?_ | refine e_then ?_ | (refine g_stand ?_; first | refine s_stand ?_ | refine s_standL ?_)) | ((with_reducible first | refine s_g_c ?_ ?_ | refine s_cond_c ?_ ?_ | refine s_tg_c ?_ ?_ | refine s_ag_c ?_ ?_) <;> intro hb <;> rw [hb] <;> (try simp only [decide_eq_true_eq, decide_eq_false_iff_not, beq_iff_eq, bne_iff_ne, beq_eq_false_iff_ne, bne_eq_false_iff_eq, ne_eq, Int.not_lt, Int.not_le, gt_iff_lt, ge_iff_le, Bool.not_eq_true', Bool.not_eq_false'] at hb)) | ((with_reducible first | refine s_ret ?_ | refine s_normal ?_); try simp only [x_tup0, x_tup1, x_tup2, x_tup3, x_tup4, x_tup5, and_true, true_and])))
  · subst hQ
    refine n_then ?_
    refine v_trim [(0, u), (1, .int .i64 k), (2, .int .i64 i)] [] (by refine ⟨SL.get_fn (by with_unfolding_all rfl), SL.get_fn (by with_unfolding_all rfl), SL.get_fn (by with_unfolding_all rfl), trivial⟩) trivial ?_
    intro s l
    exact hT k i (by omega) hil s l
  · subst hQ
    refine n_then ?_
    refine v_trim [(0, u), (1, .int .i64 i), (2, .int .i64 k)] [] (by refine ⟨SL.get_fn (by with_unfolding_all rfl), SL.get_fn (by with_unfolding_all rfl), SL.get_fn (by with_unfolding_all rfl), trivial⟩) trivial ?_
    intro s l
    exact hT i k (by omega) hkl s l
theorem shaPieces_walk {H : Type} {enc : TypeId × Value → H} {W : World} {base : Nat} {v0 v1 v2 : Value} {d0 d1 d2 : DataW H} {p0 p1 p2 : List MemPlace}
    (hv0 : Value.okWide Try.prog W .any base 25 v0) (h0 : DataW.Trod enc Try.prog W 0 (fun _ => true) true 25 v0 d0 p0)
    (hv1 : Value.okWide Try.prog W .any base 3 v1) (h1 : DataW.Trod enc Try.prog W 0 (fun _ => true) true 3 v1 d1 p1)
    (hv2 : Value.okWide Try.prog W .any base 3 v2) (h2 : DataW.Trod enc Try.prog W 0 (fun _ => true) true 3 v2 d2 p2)
    (hsz : (DataW.weightsEach Try.prog [25, 3, 3] [d0, d1, d2]).all (· ≤ reachBytes) = true) :
    HC Try.prog 7 #[v0, v1, v2] (whole W) fun v G' => v = .bool true ∧ (whole W).le G' := by
  obtain ⟨bs, hb, hl⟩ := top_bytesL 0 Try.underlying25 Try.underlying5 (by kernel_rfl) (by kernel_rfl) hv0 h0 hsz rfl rfl
  obtain ⟨n1, rfl, hn1⟩ := top_int Try.underlying3 hv1 h1
  obtain ⟨n2, rfl, hn2⟩ := top_int Try.underlying3 hv2 h2
  exact piecesP v0 bs n1 n2 _ hb hl
end Go.Proofs.Ytbpjjhbkahinjaa.V
