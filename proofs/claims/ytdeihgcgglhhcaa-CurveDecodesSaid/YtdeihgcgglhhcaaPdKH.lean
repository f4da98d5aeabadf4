/- Bytes read as numbers of the field, and written: the program's read and bytes, the document's From and To. -/
import Derived.Test.YtdeihgcgglhhcaaPdKG
set_option linter.unusedSimpArgs false
set_option linter.unusedVariables false
set_option maxRecDepth 20000
-- @nums
-- @extra s_eqN s_naddc s_nadd s_nsubL s_nquoc s_nremc s_nmulc s_wconv s_wshlc s_wshr s_wmulc s_wadd s_wor s_tou8
-- @pre g_lload s_lloadF s_lloadK s_lloadV s_lloadD s_lloadW
-- @pre g_lstore s_lstoreF s_lstoreK s_lstoreV s_lstoreD s_lstoreW
-- @pre g_lbox s_lboxF s_lboxD s_lboxW
namespace Go.Proofs.Ytdeihgcgglhhcaa.V
open Go.RowKit Go.ChangeShapes Go.WideShapes
theorem be_max {l : List UInt8} {m : Nat} (h : l.length < m) : be l * 256 < 256 ^ m := by
  have h1 := be_lt l
  have h2 : 256 ^ (l.length + 1) ≤ 256 ^ m := Nat.pow_le_pow_right (by decide) h
  rw [Nat.pow_succ] at h2
  omega
theorem shl_or {x y : Nat} (hx : x * 256 < 18446744073709551616) (hy : y < 256) : x * 2 ^ 8 % 18446744073709551616 ||| y = x * 256 + y := by
  rw [show x * 2 ^ 8 = x * 256 from rfl, Nat.mod_eq_of_lt hx]
  have := Nat.two_pow_add_eq_or_of_lt (i := 8) (b := y) (by omega) x
  rw [Nat.mul_comm (2 ^ 8) x] at this
  exact this.symm
theorem chk_next {m q i n : Nat} {l : List UInt8} {a : List Nat} (h1 : m * q ≤ i) (h2 : i < m * (q + 1)) (h : i < l.length) (hq : q < n) (ha : a.length = n) (k : ∀ j, j < n → a.getD (n - 1 - j) 0 = be (chk m j (l.take i))) :
    ∀ j, j < n → (a.set (n - 1 - q) (a.getD (n - 1 - q) 0 * 256 + (l.getD i 0).toNat)).getD (n - 1 - j) 0 = be (chk m j (l.take (i + 1))) := by
  intro j hj
  by_cases e : j = q
  · subst e
    rw [set_getD_eq _ (by omega), chk_same h1 h2 h, be_push, k j hj]
  · rw [set_getD_ne _ (by omega), k j hj]
    rw [chk_other]
    rcases Nat.lt_or_ge j q with e2 | e2
    · right; have := Nat.mul_le_mul_left m (show j + 1 ≤ q by omega); omega
    · left; have := Nat.mul_le_mul_left m (show q + 1 ≤ j by omega); omega
theorem readF (l : List UInt8) (G : GH) (hl : l.length = 32) : HC Try.prog 53 #[dK l] G fun v G' => v = .tuple #[fv (of (be l)), .bool (decide (be l < p256))] ∧ G.le G' := by
  refine HC.start comp53 rfl ?_; unfold pc53
  (repeat' (first | (with_reducible refine i_ops ?_; first | (refine g_mv ?_; refine s_mv ?_) | refine o_nil ?_ | (refine g_build ?_; first | refine s_build ?_ | refine s_buildP ?_) | (refine g_pure ?_; first | refine s_eqN ?_ | refine s_naddc ?_ | refine s_nadd ?_ | refine s_nsubL ?_ | refine s_nquoc ?_ | refine s_nremc ?_ | refine s_nmulc ?_ | refine s_wconv ?_ | refine s_wshlc ?_ | refine s_wshr ?_ | refine s_wmulc ?_ | refine s_wadd ?_ | refine s_wor ?_ | refine s_tou8 ?_ | refine s_pure ?_ | refine s_saddB ?_) | (refine g_lload ?_; first | refine s_lloadF ?_ | refine s_lloadK ?_ | refine s_lloadV ?_ | refine s_lloadD ?_ | refine s_lloadW ?_ | refine s_lload ?_) | (refine g_lstore ?_; first | refine s_lstoreF ?_ | refine s_lstoreK ?_ | refine s_lstoreV ?_ | refine s_lstoreD ?_ | refine s_lstoreW ?_ | refine s_lstoreA ?_ | refine s_lstore ?_) | (refine g_lindex ?_; refine s_lindex ?_) | (refine g_lalloc ?_; refine s_lalloc ?_) | (refine g_lbox ?_; first | refine s_lboxF ?_ | refine s_lboxD ?_ | refine s_lboxW ?_ | refine s_lbox ?_)) | (with_reducible refine i_vc ?_; first | refine v_seq ?_ | refine v_ops ?_ | (refine g_cond ?_; first | refine s_cond_t ?_ | refine s_cond_f ?_) | refine v_block ?_ | refine v_skip ?_ | refine v_exit ?_ | refine v_ret ?_ | refine s_drawl ?_ | refine v_draw0 ?_) | (with_reducible refine i_plan ?_; first | refine p_done ?_ | refine s_pre ?_ | refine s_preN ?_ | refine s_ag_t ?_ | refine s_ag_f ?_ | refine s_alt ?_ | refine p_alt ?_ ?_) | (with_reducible first | refine n_then ?_ | refine r_then ?_ | refine e_then ?_ | refine n_block ?_ | refine r_block ?_ | refine e_block_eq (by with_unfolding_all rfl) ?_ | refine e_block_ne (by with_unfolding_all rfl) ?_ | (refine g_stand ?_; first | refine s_stand ?_ | refine s_standL ?_)) | ((with_reducible first | refine s_cond_c ?_ ?_) <;> intro hb <;> rw [hb] <;> (try simp only [decide_eq_true_eq, decide_eq_false_iff_not, beq_iff_eq, bne_iff_ne, beq_eq_false_iff_ne, bne_eq_false_iff_eq, ne_eq, Int.not_lt, Int.not_le, gt_iff_lt, ge_iff_le, Bool.not_eq_true', Bool.not_eq_false'] at hb)) | ((with_reducible first | refine s_ret ?_ | refine s_normal ?_); try simp only [x_tup0, x_tup1, x_tup2, x_tup3, x_tup4, x_tup5, and_true, true_and])))
  refine v_loopX (α := Nat × List Nat) (fun x => x.1 ≤ 32 ∧ x.2.length = 4 ∧ Dl 18446744073709551616 x.2 ∧ (∀ j, j < 4 → x.2.getD (4 - 1 - j) 0 = be (chk 8 j (l.take x.1))))
    (fun x => [(1, .int .u64 0), (2, .int .u64 0), (4, .int .u64 0), (6, iv .i64 x.1)]) (fun x => [(1, bca l), (2, na [0, 0, 0, 0]), (4, na x.2)]) (fun _ => G) (fun x => 32 - x.1) (0, [0, 0, 0, 0])
    ⟨Nat.zero_le _, rfl, Dl.rep 4 (by decide), fun j hj => by rw [List.take_zero, show chk 8 j [] = [] by simp [chk]]; match j, hj with | 0, _ | 1, _ | 2, _ | 3, _ => rfl⟩ (by refine ⟨SL.get_fn (by with_unfolding_all rfl), SL.get_fn (by with_unfolding_all rfl), SL.get_fn (by with_unfolding_all rfl), SL.get_fn (by with_unfolding_all rfl), trivial⟩) (by refine ⟨AL.get_fn (by with_unfolding_all rfl), AL.get_fn (by with_unfolding_all rfl), AL.get_fn (by with_unfolding_all rfl), trivial⟩) rfl ?_
  rintro ⟨i, a⟩ s ll ⟨k1, k2, k3, k4⟩
  dsimp only at k1 k2 k3 k4
  dsimp only [SL.sets, AL.sets]
  have hb8 := (l.getD i 0).toNat_lt
  have hx := k3.getD (by decide) (3 - i / 8)
  (repeat' (first | (with_reducible refine i_ops ?_; first | (refine g_mv ?_; refine s_mv ?_) | refine o_nil ?_ | (refine g_build ?_; first | refine s_build ?_ | refine s_buildP ?_) | (refine g_pure ?_; first | refine s_eqN ?_ | refine s_naddc ?_ | refine s_nadd ?_ | refine s_nsubL ?_ | refine s_nquoc ?_ | refine s_nremc ?_ | refine s_nmulc ?_ | refine s_wconv ?_ | refine s_wshlc ?_ | refine s_wshr ?_ | refine s_wmulc ?_ | refine s_wadd ?_ | refine s_wor ?_ | refine s_tou8 ?_ | refine s_pure ?_ | refine s_saddB ?_) | (refine g_lload ?_; first | refine s_lloadF ?_ | refine s_lloadK ?_ | refine s_lloadV ?_ | refine s_lloadD ?_ | refine s_lloadW ?_ | refine s_lload ?_) | (refine g_lstore ?_; first | refine s_lstoreF ?_ | refine s_lstoreK ?_ | refine s_lstoreV ?_ | refine s_lstoreD ?_ | refine s_lstoreW ?_ | refine s_lstoreA ?_ | refine s_lstore ?_) | (refine g_lindex ?_; refine s_lindex ?_) | (refine g_lalloc ?_; refine s_lalloc ?_) | (refine g_lbox ?_; first | refine s_lboxF ?_ | refine s_lboxD ?_ | refine s_lboxW ?_ | refine s_lbox ?_) | refine o_callp (by with_unfolding_all rfl) (by first | exact squareK _) ?_ | (refine o_callg (by with_unfolding_all rfl) (by first | exact squareK _) ?_; intro G' hle)) | (with_reducible refine i_vc ?_; first | refine v_seq ?_ | refine v_ops ?_ | (refine g_cond ?_; first | refine s_cond_t ?_ | refine s_cond_f ?_) | refine v_block ?_ | refine v_skip ?_ | refine v_exit ?_ | refine v_ret ?_ | refine s_drawl ?_ | refine v_draw0 ?_) | (with_reducible refine i_plan ?_; first | refine p_done ?_ | refine s_pre ?_ | refine s_preN ?_ | refine s_ag_t ?_ | refine s_ag_f ?_ | refine p_callp (by with_unfolding_all rfl) (by first | exact squareK _) (by first | assumption | exact GH.le_refl _ | ((repeat (first | exact GH.le_refl _ | assumption | refine GH.le_trans ?_ (by assumption))); first | done | fail)) ?_ p_no | (refine p_callg (by with_unfolding_all rfl) (by first | exact squareK _) (by first | assumption | exact GH.le_refl _ | ((repeat (first | exact GH.le_refl _ | assumption | refine GH.le_trans ?_ (by assumption))); first | done | fail)) ?_ p_no; intro G' hle) | refine s_alt ?_ | refine p_alt ?_ ?_) | (with_reducible first | refine n_then ?_ | refine r_then ?_ | refine e_then ?_ | refine n_block ?_ | refine r_block ?_ | refine e_block_eq (by with_unfolding_all rfl) ?_ | refine e_block_ne (by with_unfolding_all rfl) ?_ | (refine g_stand ?_; first | refine s_stand ?_ | refine s_standL ?_)) | ((with_reducible first | refine s_cond_c ?_ ?_) <;> intro hb <;> rw [hb] <;> (try simp only [decide_eq_true_eq, decide_eq_false_iff_not, beq_iff_eq, bne_iff_ne, beq_eq_false_iff_ne, bne_eq_false_iff_eq, ne_eq, Int.not_lt, Int.not_le, gt_iff_lt, ge_iff_le, Bool.not_eq_true', Bool.not_eq_false'] at hb)) | ((with_reducible first | refine s_ret ?_ | refine s_normal ?_); try simp only [x_tup0, x_tup1, x_tup2, x_tup3, x_tup4, x_tup5, and_true, true_and])))
  · have e4 := k4 (i / 8) (by omega)
    rw [show 4 - 1 - i / 8 = 3 - i / 8 by omega] at e4
    have hm : a.getD (3 - i / 8) 0 * 256 < 18446744073709551616 := by
      rw [e4]
      exact be_max (m := 8) (by have := chk_len' (m := 8) (j := i / 8) (i := i) (l := l) (by omega); omega)
    rw [shl_or hm hb8]
    exact ⟨32 - (i + 1), by omega, (i + 1, a.set (3 - i / 8) (a.getD (3 - i / 8) 0 * 256 + (l.getD i 0).toNat)), rfl, ⟨by dsimp only; omega, by simpa using k2, k3.set _ (by omega), chk_next (m := 8) (q := i / 8) (n := 4) (by omega) (by omega) (by omega) (by omega) k2 k4⟩, (by refine ⟨SL.get_fn (by with_unfolding_all rfl), SL.get_fn (by with_unfolding_all rfl), SL.get_fn (by with_unfolding_all rfl), SL.get_fn (by with_unfolding_all rfl), trivial⟩), (by refine ⟨AL.get_fn (by with_unfolding_all rfl), AL.get_fn (by with_unfolding_all rfl), AL.get_fn (by with_unfolding_all rfl), trivial⟩), rfl⟩
  have hi : i = 32 := by omega
  subst hi
  rw [List.take_of_length_le (by omega)] at k4
  have hv := val_chk (m := 8) (by decide) k2 (by omega) k4
  have hT := be_lt l
  rw [hl] at hT
  have e := fd_of k3 k2 hv
  subst e
  have c1 := timesSq (be l) hT
  have hp2 : (256 : Nat) ^ 32 < 2 * p256 := by decide
  have c2 : ∀ G, HC Try.prog 66 #[nv (be l), .int .u64 0] G fun v G' => v = nv (be l % p256) ∧ G' = G := fun G => subK (be l) 0 G hT (by decide) (by omega)
  have h1 : be l % p256 < 18446744073709551616 ^ 4 := Nat.lt_of_lt_of_le (Nat.mod_lt _ p_pos) (by decide)
  have h2 : be l < 18446744073709551616 ^ 4 := hT
  have hd : decide (be l % p256 = be l) = decide (be l < p256) := by
    rw [decide_eq_decide]
    exact ⟨fun h => by rw [← h]; exact Nat.mod_lt _ p_pos, Nat.mod_eq_of_lt⟩
  (repeat' (first | (with_reducible refine i_ops ?_; first | (refine g_mv ?_; refine s_mv ?_) | refine o_nil ?_ | (refine g_build ?_; first | refine s_build ?_ | refine s_buildP ?_) | (refine g_pure ?_; first | refine s_eqN ?_ | refine s_naddc ?_ | refine s_nadd ?_ | refine s_nsubL ?_ | refine s_nquoc ?_ | refine s_nremc ?_ | refine s_nmulc ?_ | refine s_wconv ?_ | refine s_wshlc ?_ | refine s_wshr ?_ | refine s_wmulc ?_ | refine s_wadd ?_ | refine s_wor ?_ | refine s_tou8 ?_ | refine s_pure ?_ | refine s_saddB ?_) | (refine g_lload ?_; first | refine s_lloadF ?_ | refine s_lloadK ?_ | refine s_lloadV ?_ | refine s_lloadD ?_ | refine s_lloadW ?_ | refine s_lload ?_) | (refine g_lstore ?_; first | refine s_lstoreF ?_ | refine s_lstoreK ?_ | refine s_lstoreV ?_ | refine s_lstoreD ?_ | refine s_lstoreW ?_ | refine s_lstoreA ?_ | refine s_lstore ?_) | (refine g_lindex ?_; refine s_lindex ?_) | (refine g_lalloc ?_; refine s_lalloc ?_) | (refine g_lbox ?_; first | refine s_lboxF ?_ | refine s_lboxD ?_ | refine s_lboxW ?_ | refine s_lbox ?_) | refine o_callp (by with_unfolding_all rfl) (by first | exact c1 _ | exact c2 _) ?_ | (refine o_callg (by with_unfolding_all rfl) (by first | exact c1 _ | exact c2 _) ?_; intro G' hle)) | (with_reducible refine i_vc ?_; first | refine v_seq ?_ | refine v_ops ?_ | (refine g_cond ?_; first | refine s_cond_t ?_ | refine s_cond_f ?_) | refine v_block ?_ | refine v_skip ?_ | refine v_exit ?_ | refine v_ret ?_ | refine s_drawl ?_ | refine v_draw0 ?_) | (with_reducible refine i_plan ?_; first | refine p_done ?_ | refine s_pre ?_ | refine s_preN ?_ | refine s_ag_t ?_ | refine s_ag_f ?_ | refine p_callp (by with_unfolding_all rfl) (by first | exact c1 _ | exact c2 _) (by first | assumption | exact GH.le_refl _ | ((repeat (first | exact GH.le_refl _ | assumption | refine GH.le_trans ?_ (by assumption))); first | done | fail)) ?_ p_no | (refine p_callg (by with_unfolding_all rfl) (by first | exact c1 _ | exact c2 _) (by first | assumption | exact GH.le_refl _ | ((repeat (first | exact GH.le_refl _ | assumption | refine GH.le_trans ?_ (by assumption))); first | done | fail)) ?_ p_no; intro G' hle) | refine s_alt ?_ | refine p_alt ?_ ?_) | (with_reducible first | refine n_then ?_ | refine r_then ?_ | refine e_then ?_ | refine n_block ?_ | refine r_block ?_ | refine e_block_eq (by with_unfolding_all rfl) ?_ | refine e_block_ne (by with_unfolding_all rfl) ?_ | (refine g_stand ?_; first | refine s_stand ?_ | refine s_standL ?_)) | ((with_reducible first | refine s_cond_c ?_ ?_) <;> intro hb <;> rw [hb] <;> (try simp only [decide_eq_true_eq, decide_eq_false_iff_not, beq_iff_eq, bne_iff_ne, beq_eq_false_iff_ne, bne_eq_false_iff_eq, ne_eq, Int.not_lt, Int.not_le, gt_iff_lt, ge_iff_le, Bool.not_eq_true', Bool.not_eq_false'] at hb)) | ((with_reducible first | refine s_ret ?_ | refine s_normal ?_); try simp only [x_tup0, x_tup1, x_tup2, x_tup3, x_tup4, x_tup5, and_true, true_and])))
  rw [hd, fv_ext]
  exact ⟨rfl, by assumption⟩
theorem byteK {wb c q n s : Nat} (hq : q < c) (hs : s + 8 ≤ wb) : UInt8.ofNat ((fd (2 ^ wb) c n).getD q 0 / 2 ^ s) = UInt8.ofNat (n / 2 ^ (wb * q + s)) := by
  rw [fd_getD _ n hq]
  apply UInt8.toNat_inj.1
  rw [UInt8.toNat_ofNat', UInt8.toNat_ofNat']
  have e2 : (2 : Nat) ^ wb = 2 ^ s * 2 ^ (wb - s) := by rw [← Nat.pow_add, show s + (wb - s) = wb by omega]
  conv => lhs; arg 1; arg 1; arg 2; rw [e2]
  rw [Nat.mod_mul_right_div_self, Nat.mod_mod_of_dvd _ (by rw [show wb - s = (wb - s - 8) + 8 by omega, Nat.pow_add]; exact Nat.dvd_mul_left _ _), ← Nat.pow_mul, Nat.div_div_eq_div_mul, ← Nat.pow_add]
theorem beN_getD {n m i : Nat} (h : i < n) : (beN n m).getD i 0 = UInt8.ofNat (m / 256 ^ (n - 1 - i)) := by
  unfold beN
  rw [List.getD_eq_getElem?_getD, List.getElem?_map, List.getElem?_range h]; rfl
theorem take_push {l : List UInt8} {i : Nat} (h : i < l.length) : l.take (i + 1) = l.take i ++ [l.getD i 0] := by
  rw [List.take_succ_eq_append_getElem h, List.getD_eq_getElem?_getD, List.getElem?_eq_getElem h]; rfl
theorem fil_next {l : List UInt8} {i n : Nat} (hl : l.length = n) (h : i < n) : (filN n (l.take i)).set i (l.getD i 0) = filN n (l.take (i + 1)) := by
  have e : (l.take i).length = i := by rw [List.length_take]; omega
  have := filN_set (n := n) (L := l.take i) (by omega) (l.getD i 0)
  rw [e] at this
  rw [this, take_push (by omega)]
theorem pow8 (k : Nat) : (256 : Nat) ^ k = 2 ^ (8 * k) := by rw [Nat.pow_mul]
theorem toR (n : Nat) (G : GH) : HC Try.prog 29 #[fw n] G fun v G' => v = dK (beN 32 n) ∧ G' = G := by
  have l1 := fd_len 4294967296 8 n
  refine HC.start comp29 rfl ?_; unfold pc29
  (repeat' (first | (with_reducible refine i_ops ?_; first | (refine g_mv ?_; refine s_mv ?_) | refine o_nil ?_ | (refine g_build ?_; first | refine s_build ?_ | refine s_buildP ?_) | (refine g_pure ?_; first | refine s_eqN ?_ | refine s_naddc ?_ | refine s_nadd ?_ | refine s_nsubL ?_ | refine s_nquoc ?_ | refine s_nremc ?_ | refine s_nmulc ?_ | refine s_wconv ?_ | refine s_wshlc ?_ | refine s_wshr ?_ | refine s_wmulc ?_ | refine s_wadd ?_ | refine s_wor ?_ | refine s_tou8 ?_ | refine s_pure ?_ | refine s_saddB ?_) | (refine g_lload ?_; first | refine s_lloadF ?_ | refine s_lloadK ?_ | refine s_lloadV ?_ | refine s_lloadD ?_ | refine s_lloadW ?_ | refine s_lload ?_) | (refine g_lstore ?_; first | refine s_lstoreF ?_ | refine s_lstoreK ?_ | refine s_lstoreV ?_ | refine s_lstoreD ?_ | refine s_lstoreW ?_ | refine s_lstoreA ?_ | refine s_lstore ?_) | (refine g_lindex ?_; refine s_lindex ?_) | (refine g_lalloc ?_; refine s_lalloc ?_) | (refine g_lbox ?_; first | refine s_lboxF ?_ | refine s_lboxD ?_ | refine s_lboxW ?_ | refine s_lbox ?_)) | (with_reducible refine i_vc ?_; first | refine v_seq ?_ | refine v_ops ?_ | (refine g_cond ?_; first | refine s_cond_t ?_ | refine s_cond_f ?_) | refine v_block ?_ | refine v_skip ?_ | refine v_exit ?_ | refine v_ret ?_ | refine s_drawl ?_ | refine v_draw0 ?_) | (with_reducible refine i_plan ?_; first | refine p_done ?_ | refine s_pre ?_ | refine s_preN ?_ | refine s_ag_t ?_ | refine s_ag_f ?_ | refine s_alt ?_ | refine p_alt ?_ ?_) | (with_reducible first | refine n_then ?_ | refine r_then ?_ | refine e_then ?_ | refine n_block ?_ | refine r_block ?_ | refine e_block_eq (by with_unfolding_all rfl) ?_ | refine e_block_ne (by with_unfolding_all rfl) ?_ | (refine g_stand ?_; first | refine s_stand ?_ | refine s_standL ?_)) | ((with_reducible first | refine s_cond_c ?_ ?_) <;> intro hb <;> rw [hb] <;> (try simp only [decide_eq_true_eq, decide_eq_false_iff_not, beq_iff_eq, bne_iff_ne, beq_eq_false_iff_ne, bne_eq_false_iff_eq, ne_eq, Int.not_lt, Int.not_le, gt_iff_lt, ge_iff_le, Bool.not_eq_true', Bool.not_eq_false'] at hb)) | ((with_reducible first | refine s_ret ?_ | refine s_normal ?_); try simp only [x_tup0, x_tup1, x_tup2, x_tup3, x_tup4, x_tup5, and_true, true_and])))
  have b32 := beN_len 32 n
  refine v_loopX (α := Nat) (fun i => i ≤ 32)
    (fun i => [(1, .int .u64 0), (2, .int .u64 0), (3, .int .u64 0), (4, iv .i64 i)]) (fun i => [(1, na (fd 4294967296 8 n)), (2, bca (List.replicate 32 0)), (3, bca (filN 32 ((beN 32 n).take i)))]) (fun _ => _) (fun i => 32 - i) 0
    (Nat.zero_le _) (by refine ⟨SL.get_fn (by with_unfolding_all rfl), SL.get_fn (by with_unfolding_all rfl), SL.get_fn (by with_unfolding_all rfl), SL.get_fn (by with_unfolding_all rfl), trivial⟩) (by refine ⟨AL.get_fn (by with_unfolding_all rfl), AL.get_fn (by with_unfolding_all rfl), AL.get_fn (by with_unfolding_all rfl), trivial⟩) rfl ?_
  rintro i s ll k1
  dsimp only [SL.sets, AL.sets]
  have hx := fd_lt (B := 4294967296) (by decide) 8 n (7 - i / 4)
  have hf : (filN 32 ((beN 32 n).take i)).length = 32 := filN_len (by rw [List.length_take]; omega)
  (repeat' (first | (with_reducible refine i_ops ?_; first | (refine g_mv ?_; refine s_mv ?_) | refine o_nil ?_ | (refine g_build ?_; first | refine s_build ?_ | refine s_buildP ?_) | (refine g_pure ?_; first | refine s_eqN ?_ | refine s_naddc ?_ | refine s_nadd ?_ | refine s_nsubL ?_ | refine s_nquoc ?_ | refine s_nremc ?_ | refine s_nmulc ?_ | refine s_wconv ?_ | refine s_wshlc ?_ | refine s_wshr ?_ | refine s_wmulc ?_ | refine s_wadd ?_ | refine s_wor ?_ | refine s_tou8 ?_ | refine s_pure ?_ | refine s_saddB ?_) | (refine g_lload ?_; first | refine s_lloadF ?_ | refine s_lloadK ?_ | refine s_lloadV ?_ | refine s_lloadD ?_ | refine s_lloadW ?_ | refine s_lload ?_) | (refine g_lstore ?_; first | refine s_lstoreF ?_ | refine s_lstoreK ?_ | refine s_lstoreV ?_ | refine s_lstoreD ?_ | refine s_lstoreW ?_ | refine s_lstoreA ?_ | refine s_lstore ?_) | (refine g_lindex ?_; refine s_lindex ?_) | (refine g_lalloc ?_; refine s_lalloc ?_) | (refine g_lbox ?_; first | refine s_lboxF ?_ | refine s_lboxD ?_ | refine s_lboxW ?_ | refine s_lbox ?_)) | (with_reducible refine i_vc ?_; first | refine v_seq ?_ | refine v_ops ?_ | (refine g_cond ?_; first | refine s_cond_t ?_ | refine s_cond_f ?_) | refine v_block ?_ | refine v_skip ?_ | refine v_exit ?_ | refine v_ret ?_ | refine s_drawl ?_ | refine v_draw0 ?_) | (with_reducible refine i_plan ?_; first | refine p_done ?_ | refine s_pre ?_ | refine s_preN ?_ | refine s_ag_t ?_ | refine s_ag_f ?_ | refine s_alt ?_ | refine p_alt ?_ ?_) | (with_reducible first | refine n_then ?_ | refine r_then ?_ | refine e_then ?_ | refine n_block ?_ | refine r_block ?_ | refine e_block_eq (by with_unfolding_all rfl) ?_ | refine e_block_ne (by with_unfolding_all rfl) ?_ | (refine g_stand ?_; first | refine s_stand ?_ | refine s_standL ?_)) | ((with_reducible first | refine s_cond_c ?_ ?_) <;> intro hb <;> rw [hb] <;> (try simp only [decide_eq_true_eq, decide_eq_false_iff_not, beq_iff_eq, bne_iff_ne, beq_eq_false_iff_ne, bne_eq_false_iff_eq, ne_eq, Int.not_lt, Int.not_le, gt_iff_lt, ge_iff_le, Bool.not_eq_true', Bool.not_eq_false'] at hb)) | ((with_reducible first | refine s_ret ?_ | refine s_normal ?_); try simp only [x_tup0, x_tup1, x_tup2, x_tup3, x_tup4, x_tup5, and_true, true_and])))
  · refine ⟨32 - (i + 1), by omega, i + 1, rfl, by omega, (by refine ⟨SL.get_fn (by with_unfolding_all rfl), SL.get_fn (by with_unfolding_all rfl), SL.get_fn (by with_unfolding_all rfl), SL.get_fn (by with_unfolding_all rfl), trivial⟩), ⟨AL.get_fn (by with_unfolding_all rfl), AL.get_fn (by with_unfolding_all rfl), ?_, trivial⟩, rfl⟩
    refine AL.get_fn ?_
    have e := byteK (wb := 32) (c := 8) (q := 7 - i / 4) (n := n) (s := 24 - i % 4 * 8) (by omega) (by omega)
    have e2 := fil_next b32 (show i < 32 by omega)
    rw [beN_getD (by omega), pow8, show 8 * (32 - 1 - i) = 32 * (7 - i / 4) + (24 - i % 4 * 8) by omega, ← e] at e2
    rw [← e2]
    rfl
  · have hi : i = 32 := by omega
    subst hi
    have e : filN 32 (List.take 32 (beN 32 n)) = beN 32 n := by rw [List.take_of_length_le (by omega), filN_all b32]
    rw [e]
    ((with_reducible first | refine s_ret ?_ | refine s_normal ?_); try simp only [x_tup0, x_tup1, x_tup2, x_tup3, x_tup4, x_tup5, and_true, true_and])
    rw [bca_ext b32]
theorem fromR (l : List UInt8) (G : GH) (hl : l.length = 32) : HC Try.prog 37 #[dK l] G fun v G' => v = fw (be l) ∧ G' = G := by
  refine HC.start comp37 rfl ?_; unfold pc37
  (repeat' (first | (with_reducible refine i_ops ?_; first | (refine g_mv ?_; refine s_mv ?_) | refine o_nil ?_ | (refine g_build ?_; first | refine s_build ?_ | refine s_buildP ?_) | (refine g_pure ?_; first | refine s_eqN ?_ | refine s_naddc ?_ | refine s_nadd ?_ | refine s_nsubL ?_ | refine s_nquoc ?_ | refine s_nremc ?_ | refine s_nmulc ?_ | refine s_wconv ?_ | refine s_wshlc ?_ | refine s_wshr ?_ | refine s_wmulc ?_ | refine s_wadd ?_ | refine s_wor ?_ | refine s_tou8 ?_ | refine s_pure ?_ | refine s_saddB ?_) | (refine g_lload ?_; first | refine s_lloadF ?_ | refine s_lloadK ?_ | refine s_lloadV ?_ | refine s_lloadD ?_ | refine s_lloadW ?_ | refine s_lload ?_) | (refine g_lstore ?_; first | refine s_lstoreF ?_ | refine s_lstoreK ?_ | refine s_lstoreV ?_ | refine s_lstoreD ?_ | refine s_lstoreW ?_ | refine s_lstoreA ?_ | refine s_lstore ?_) | (refine g_lindex ?_; refine s_lindex ?_) | (refine g_lalloc ?_; refine s_lalloc ?_) | (refine g_lbox ?_; first | refine s_lboxF ?_ | refine s_lboxD ?_ | refine s_lboxW ?_ | refine s_lbox ?_)) | (with_reducible refine i_vc ?_; first | refine v_seq ?_ | refine v_ops ?_ | (refine g_cond ?_; first | refine s_cond_t ?_ | refine s_cond_f ?_) | refine v_block ?_ | refine v_skip ?_ | refine v_exit ?_ | refine v_ret ?_ | refine s_drawl ?_ | refine v_draw0 ?_) | (with_reducible refine i_plan ?_; first | refine p_done ?_ | refine s_pre ?_ | refine s_preN ?_ | refine s_ag_t ?_ | refine s_ag_f ?_ | refine s_alt ?_ | refine p_alt ?_ ?_) | (with_reducible first | refine n_then ?_ | refine r_then ?_ | refine e_then ?_ | refine n_block ?_ | refine r_block ?_ | refine e_block_eq (by with_unfolding_all rfl) ?_ | refine e_block_ne (by with_unfolding_all rfl) ?_ | (refine g_stand ?_; first | refine s_stand ?_ | refine s_standL ?_)) | ((with_reducible first | refine s_cond_c ?_ ?_) <;> intro hb <;> rw [hb] <;> (try simp only [decide_eq_true_eq, decide_eq_false_iff_not, beq_iff_eq, bne_iff_ne, beq_eq_false_iff_ne, bne_eq_false_iff_eq, ne_eq, Int.not_lt, Int.not_le, gt_iff_lt, ge_iff_le, Bool.not_eq_true', Bool.not_eq_false'] at hb)) | ((with_reducible first | refine s_ret ?_ | refine s_normal ?_); try simp only [x_tup0, x_tup1, x_tup2, x_tup3, x_tup4, x_tup5, and_true, true_and])))
  refine v_loopX (α := Nat × List Nat) (fun x => x.1 ≤ 32 ∧ x.2.length = 8 ∧ Dl 4294967296 x.2 ∧ (∀ j, j < 8 → x.2.getD (8 - 1 - j) 0 = be (chk 4 j (l.take x.1))))
    (fun x => [(1, .int .u64 0), (2, .int .u64 0), (3, .int .u64 0), (4, iv .i64 x.1)]) (fun x => [(1, bca l), (2, na [0, 0, 0, 0, 0, 0, 0, 0]), (3, na x.2)]) (fun _ => G) (fun x => 32 - x.1) (0, [0, 0, 0, 0, 0, 0, 0, 0])
    ⟨Nat.zero_le _, rfl, Dl.rep 8 (by decide), fun j hj => by rw [List.take_zero, show chk 4 j [] = [] by simp [chk]]; match j, hj with | 0, _ | 1, _ | 2, _ | 3, _ | 4, _ | 5, _ | 6, _ | 7, _ => rfl⟩ (by refine ⟨SL.get_fn (by with_unfolding_all rfl), SL.get_fn (by with_unfolding_all rfl), SL.get_fn (by with_unfolding_all rfl), SL.get_fn (by with_unfolding_all rfl), trivial⟩) (by refine ⟨AL.get_fn (by with_unfolding_all rfl), AL.get_fn (by with_unfolding_all rfl), AL.get_fn (by with_unfolding_all rfl), trivial⟩) rfl ?_
  rintro ⟨i, a⟩ s ll ⟨k1, k2, k3, k4⟩
  dsimp only at k1 k2 k3 k4
  dsimp only [SL.sets, AL.sets]
  have hb8 := (l.getD i 0).toNat_lt
  have hx := k3.getD (by decide) (7 - i / 4)
  (repeat' (first | (with_reducible refine i_ops ?_; first | (refine g_mv ?_; refine s_mv ?_) | refine o_nil ?_ | (refine g_build ?_; first | refine s_build ?_ | refine s_buildP ?_) | (refine g_pure ?_; first | refine s_eqN ?_ | refine s_naddc ?_ | refine s_nadd ?_ | refine s_nsubL ?_ | refine s_nquoc ?_ | refine s_nremc ?_ | refine s_nmulc ?_ | refine s_wconv ?_ | refine s_wshlc ?_ | refine s_wshr ?_ | refine s_wmulc ?_ | refine s_wadd ?_ | refine s_wor ?_ | refine s_tou8 ?_ | refine s_pure ?_ | refine s_saddB ?_) | (refine g_lload ?_; first | refine s_lloadF ?_ | refine s_lloadK ?_ | refine s_lloadV ?_ | refine s_lloadD ?_ | refine s_lloadW ?_ | refine s_lload ?_) | (refine g_lstore ?_; first | refine s_lstoreF ?_ | refine s_lstoreK ?_ | refine s_lstoreV ?_ | refine s_lstoreD ?_ | refine s_lstoreW ?_ | refine s_lstoreA ?_ | refine s_lstore ?_) | (refine g_lindex ?_; refine s_lindex ?_) | (refine g_lalloc ?_; refine s_lalloc ?_) | (refine g_lbox ?_; first | refine s_lboxF ?_ | refine s_lboxD ?_ | refine s_lboxW ?_ | refine s_lbox ?_)) | (with_reducible refine i_vc ?_; first | refine v_seq ?_ | refine v_ops ?_ | (refine g_cond ?_; first | refine s_cond_t ?_ | refine s_cond_f ?_) | refine v_block ?_ | refine v_skip ?_ | refine v_exit ?_ | refine v_ret ?_ | refine s_drawl ?_ | refine v_draw0 ?_) | (with_reducible refine i_plan ?_; first | refine p_done ?_ | refine s_pre ?_ | refine s_preN ?_ | refine s_ag_t ?_ | refine s_ag_f ?_ | refine s_alt ?_ | refine p_alt ?_ ?_) | (with_reducible first | refine n_then ?_ | refine r_then ?_ | refine e_then ?_ | refine n_block ?_ | refine r_block ?_ | refine e_block_eq (by with_unfolding_all rfl) ?_ | refine e_block_ne (by with_unfolding_all rfl) ?_ | (refine g_stand ?_; first | refine s_stand ?_ | refine s_standL ?_)) | ((with_reducible first | refine s_cond_c ?_ ?_) <;> intro hb <;> rw [hb] <;> (try simp only [decide_eq_true_eq, decide_eq_false_iff_not, beq_iff_eq, bne_iff_ne, beq_eq_false_iff_ne, bne_eq_false_iff_eq, ne_eq, Int.not_lt, Int.not_le, gt_iff_lt, ge_iff_le, Bool.not_eq_true', Bool.not_eq_false'] at hb)) | ((with_reducible first | refine s_ret ?_ | refine s_normal ?_); try simp only [x_tup0, x_tup1, x_tup2, x_tup3, x_tup4, x_tup5, and_true, true_and])))
  · have e4 := k4 (i / 4) (by omega)
    rw [show 8 - 1 - i / 4 = 7 - i / 4 by omega] at e4
    have hm : a.getD (7 - i / 4) 0 * 256 < 4294967296 := by
      rw [e4]
      exact be_max (m := 4) (by have := chk_len' (m := 4) (j := i / 4) (i := i) (l := l) (by omega); omega)
    have e5 : (a.getD (7 - i / 4) 0 * 256 % 18446744073709551616 + (l.getD i 0).toNat) % 18446744073709551616 = a.getD (7 - i / 4) 0 * 256 + (l.getD i 0).toNat := by omega
    rw [e5]
    exact ⟨32 - (i + 1), by omega, (i + 1, a.set (7 - i / 4) (a.getD (7 - i / 4) 0 * 256 + (l.getD i 0).toNat)), rfl, ⟨by dsimp only; omega, by simpa using k2, k3.set _ (by omega), chk_next (m := 4) (q := i / 4) (n := 8) (by omega) (by omega) (by omega) (by omega) k2 k4⟩, (by refine ⟨SL.get_fn (by with_unfolding_all rfl), SL.get_fn (by with_unfolding_all rfl), SL.get_fn (by with_unfolding_all rfl), SL.get_fn (by with_unfolding_all rfl), trivial⟩), (by refine ⟨AL.get_fn (by with_unfolding_all rfl), AL.get_fn (by with_unfolding_all rfl), AL.get_fn (by with_unfolding_all rfl), trivial⟩), rfl⟩
  have hi : i = 32 := by omega
  subst hi
  rw [List.take_of_length_le (by omega)] at k4
  have hv := val_chk (m := 4) (by decide) k2 (by omega) k4
  have e := fd_of k3 k2 hv
  subst e
  ((with_reducible first | refine s_ret ?_ | refine s_normal ?_); try simp only [x_tup0, x_tup1, x_tup2, x_tup3, x_tup4, x_tup5, and_true, true_and])
  rw [na_ext (fd_len _ _ _)]
end Go.Proofs.Ytdeihgcgglhhcaa.V
