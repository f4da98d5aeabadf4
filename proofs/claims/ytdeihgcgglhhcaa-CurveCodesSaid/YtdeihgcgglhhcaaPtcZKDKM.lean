/- Products. -/
import Derived.Test.YtdeihgcgglhhcaaPtcZCNKC
section
set_option linter.unusedSimpArgs false
set_option linter.unusedVariables false
-- @nums
-- @extra s_iptrA s_iptrAc s_slcA0 s_slcA1 s_naddc s_nadd s_wadd s_nilck
-- @pre g_lload s_lloadV s_lloadW
-- @pre g_lstore s_lstoreV s_lstoreW
-- @pre g_lbox s_lboxW
namespace Go.Proofs.Ytdeihgcgglhhcaa.V
open Go.RowKit Go.ChangeShapes Go.WideShapes
theorem shiftK {l : List Nat} {n : Nat} (hl : l.length = n + 2) (hd : Dl 18446744073709551616 l) (h0 : val 18446744073709551616 l % 18446744073709551616 = 0) :
    val 18446744073709551616 ((l.drop 1 ++ l.drop (l.drop 1).length).set (n + 1) 0) * 18446744073709551616 = val 18446744073709551616 l ∧ ((l.drop 1 ++ l.drop (l.drop 1).length).set (n + 1) 0).length = n + 2 ∧ Dl 18446744073709551616 ((l.drop 1 ++ l.drop (l.drop 1).length).set (n + 1) 0) := by
  have e1 : (l.drop 1).length = n + 1 := by rw [List.length_drop]; omega
  have e2 : (l.drop (l.drop 1).length).length = 1 := by rw [List.length_drop]; omega
  have e3 : (l.drop 1 ++ l.drop (l.drop 1).length).set (n + 1) 0 = l.drop 1 ++ [0] := by
    rw [List.set_append_right _ _ (by omega), e1, Nat.sub_self]
    rw [e1] at e2
    obtain ⟨x, hx⟩ := List.length_eq_one_iff.1 e2
    rw [hx]; rfl
  rw [e3]
  refine ⟨?_, by rw [List.length_append]; simp only [List.length_singleton]; omega, (hd.drop 1).push (by decide)⟩
  rw [val_push, Nat.mul_zero, Nat.add_zero]
  have h1 := val_split 18446744073709551616 l 1
  have h2 : val 18446744073709551616 (l.take 1) = l.getD 0 0 := by
    rw [val_take_succ 18446744073709551616 l 0]; simp [val]
  have h3 := hd.getD (by decide) 0
  rw [h2, Nat.pow_one] at h1
  omega
theorem lowK {l : List Nat} (hd : Dl 18446744073709551616 l) : l.getD 0 0 = val 18446744073709551616 l % 18446744073709551616 := by
  have h1 := val_split 18446744073709551616 l 1
  have h2 : val 18446744073709551616 (l.take 1) = l.getD 0 0 := by
    rw [val_take_succ 18446744073709551616 l 0]; simp [val]
  have h3 := hd.getD (by decide) 0
  rw [h2, Nat.pow_one] at h1
  omega
/-- The inverse of 2 to the power 256; Montgomery's product. -/
def ri256 : Nat := 115792089183396302114378112356516095823261736990586219612555396166510339686400
def mM (a b : Nat) : Nat := a * b * ri256 % p256
theorem ri_one : 115792089237316195423570985008687907853269984665640564039457584007913129639936 * ri256 % p256 = 1 := by decide
theorem mM_of {t a b : Nat} (ht : t < p256) (h : t * 115792089237316195423570985008687907853269984665640564039457584007913129639936 % p256 = a * b % p256) : t = mM a b := by
  unfold mM
  rw [Nat.mul_mod, ← h, ← Nat.mul_mod, Nat.mul_assoc, Nat.mul_mod, ri_one, Nat.mul_one, Nat.mod_mod, Nat.mod_eq_of_lt ht]
theorem k_next {k u i : Nat} (hk : k < 18446744073709551616 ^ i) (hu : u < 18446744073709551616) : k + u * 18446744073709551616 ^ i < 18446744073709551616 ^ (i + 1) := by
  have h1 : u * 18446744073709551616 ^ i ≤ 18446744073709551615 * 18446744073709551616 ^ i := Nat.mul_le_mul_right _ (by omega)
  rw [Nat.pow_succ, Nat.mul_comm _ 18446744073709551616]
  generalize (18446744073709551616 : Nat) ^ i = t at *
  omega
theorem fit5 {a y u row : Nat} (h : row < a + p256) (ha : a < 115792089237316195423570985008687907853269984665640564039457584007913129639936) (hy : y < 18446744073709551616) (hu : u < 18446744073709551616) : row + a * y + p256 * u < 18446744073709551616 ^ 6 := by
  have hp : p256 = 115792089210356248762697446949407573530086143415290314195533631308867097853951 := rfl
  have h1 : a * y ≤ a * 18446744073709551615 := Nat.mul_le_mul_left _ (by omega)
  have h2 : p256 * u ≤ p256 * 18446744073709551615 := Nat.mul_le_mul_left _ (by omega)
  rw [b646]; omega
theorem low1 {s : Nat} : (s + p256 * (s % 18446744073709551616)) % 18446744073709551616 = 0 := by
  have := redc_dvd (B := 18446744073709551616) (s := s) (low := 1) (M := p256) (by decide)
  rw [Nat.mul_one, Nat.mod_mod, Nat.mul_comm (s % _)] at this; exact this
theorem four : ∀ {l : List Nat}, l.length = 6 → [l.getD 0 0, l.getD 1 0, l.getD 2 0, l.getD 3 0] = l.take 4
  | [_, _, _, _, _, _], _ => rfl
theorem timesK (a b : Nat) (G : GH) (ha : a < 115792089237316195423570985008687907853269984665640564039457584007913129639936) (hbT : b < 115792089237316195423570985008687907853269984665640564039457584007913129639936) (hab : a * b < 115792089237316195423570985008687907853269984665640564039457584007913129639936 * p256) :
    HC Try.prog 51 #[nv a, nv b] G fun v G' => v = nv (mM a b) ∧ G.le G' := by
  have l1 := fd_len 18446744073709551616 4 a
  have l2 := fd_len 18446744073709551616 4 b
  have l3 := fd_len 18446744073709551616 4 p256
  have hp : p256 = 115792089210356248762697446949407573530086143415290314195533631308867097853951 := rfl
  refine HC.start comp51 rfl ?_; unfold pc51
  (repeat' (first | (with_reducible refine i_ops ?_; first | refine o_nil ?_ | (refine g_lalloc ?_; refine s_lalloc ?_) | (refine g_lbox ?_; refine s_lboxW ?_)) | (with_reducible refine i_vc ?_; first | refine v_seq ?_ | refine v_ops ?_) | (with_reducible refine n_then ?_)))
  refine o_halloc ?_
  intro br hbr
  generalize e1' : G.put br _ = G1
  obtain ⟨e, cs, e1, w1⟩ : ∃ e cs, G1 = G.put br (.cells cs e) ∧ Win .u64 G1 br 0 cs e (0, 0) (List.replicate 6 0) := ⟨_, _, e1'.symm, by rw [← e1']; with_unfolding_all exact Win.make .u64 6 (by decide) G br _⟩
  clear e1'
  (repeat' (first | (with_reducible refine i_ops ?_; first | (refine g_mv ?_; refine s_mv ?_) | refine o_nil ?_ | (refine g_lstore ?_; refine s_lstoreA ?_) | (refine g_lalloc ?_; refine s_lalloc ?_) | refine o_callp qrf (by exact modulusK _) ?_) | (with_reducible refine i_vc ?_; first | refine v_seq ?_ | refine v_ops ?_ | refine v_block ?_) | (with_reducible refine n_then ?_)))
  refine v_loopX (α := Nat × List Nat × Array Value × GH × Nat) (fun x => x.1 ≤ 4 ∧ x.2.1.length = 6 ∧ Dl 18446744073709551616 x.2.1 ∧ Win .u64 x.2.2.2.1 br 0 x.2.2.1 e (0, 0) x.2.1 ∧ x.2.2.2.1 = G.put br (.cells x.2.2.1 e) ∧ val 18446744073709551616 x.2.1 * 18446744073709551616 ^ x.1 = a * val 18446744073709551616 ((fd 18446744073709551616 4 b).take x.1) + x.2.2.2.2 * p256 ∧ val 18446744073709551616 x.2.1 < a + p256 ∧ x.2.2.2.2 < 18446744073709551616 ^ x.1)
    (fun x => [(2, .int .u64 0), (3, .int .u64 0), (4, .int .u64 0), (5, .pointer (some ⟨br, 0, none⟩)), (6, .int .u64 0), (9, iv .i64 x.1)]) (fun _ => [(2, na (fd 18446744073709551616 4 a)), (3, na (fd 18446744073709551616 4 b)), (4, na [0, 0, 0, 0]), (6, na (fd 18446744073709551616 4 p256))]) (fun x => x.2.2.2.1) (fun x => 4 - x.1) (0, List.replicate 6 0, cs, G1, 0)
    ⟨Nat.zero_le _, by simp, Dl.rep _ (by decide), w1, e1, by rw [val_rep]; simp [val], by rw [val_rep]; omega, by simp⟩ qhs qhl rfl ?_
  rintro ⟨i, row, cs2, H, k⟩ s ll ⟨k1, k2, k3, k4, k5, k6, k7, k8⟩
  dsimp only at k1 k2 k3 k4 k5 k6 k7 k8
  dsimp only [SL.sets, AL.sets]
  have hGH : G.le H := le_eq k5 (GH.le_refl _) hbr
  have hy := fd_lt (B := 18446744073709551616) (by decide) 4 b i
  (repeat' (first | (with_reducible refine i_ops ?_; first | (refine g_mv ?_; refine s_mv ?_) | refine o_nil ?_ | (refine g_pure ?_; first | refine s_iptrAc ?_ | refine s_pure ?_) | (refine g_lload ?_; first | refine s_lloadV ?_ | refine s_lloadW ?_) | (refine g_lindex ?_; refine s_lindex ?_)) | (with_reducible refine i_vc ?_; first | refine v_seq ?_ | refine v_ops ?_ | (refine g_cond ?_; first | refine s_cond_t ?_ | refine s_cond_f ?_) | refine v_block ?_ | refine v_skip ?_ | refine v_exit ?_ | refine v_drawG G qle ?_) | (with_reducible refine i_plan ?_; first | refine s_preN ?_ | refine s_alt ?_) | (with_reducible first | refine n_then ?_ | refine e_then ?_ | refine e_block_eq qrf ?_) | ((with_reducible refine s_cond_c ?_ ?_) <;> intro hb <;> rw [hb] <;> (try simp only [decide_eq_true_eq, decide_eq_false_iff_not, beq_iff_eq, bne_iff_ne, beq_eq_false_iff_ne, bne_eq_false_iff_eq, ne_eq, Int.not_lt, Int.not_le, gt_iff_lt, ge_iff_le, Bool.not_eq_true', Bool.not_eq_false'] at hb))))
  · refine o_callc qrf (addK br a ((fd 18446744073709551616 4 b).getD i 0) cs2 e row G H hGH hbr k4 k2 k3 ha hy (by have := fit5 (u := 0) k7 ha hy (by decide); simpa using this)) ?_
    rintro w2 H2 ⟨cs3, row2, e2, w2', l2', d2, v2⟩
    have hGH2 : G.le H2 := le_eq (put_eq e2 k5) (GH.le_refl _) hbr
    have P3 := w2'.ptr0 (i := 0) (by omega)
    (repeat' (first | (with_reducible refine i_ops ?_; first | refine o_nil ?_ | (refine g_pure ?_; refine s_iptrAc ?_) | (refine g_lload ?_; refine s_lloadW ?_) | (refine g_hload ?_; refine s_hloadP ?_)) | (with_reducible refine i_vc ?_; first | refine v_seq ?_ | refine v_ops ?_) | (with_reducible refine i_plan ?_; refine p_done ?_) | (with_reducible first | refine n_then ?_ | (refine g_stand ?_; refine s_stand ?_))))
    have hu2 := Nat.mod_lt (val 18446744073709551616 row2) (show 18446744073709551616 > 0 by decide)
    rw [lowK d2]
    have f2 := fit5 k7 ha hy hu2
    rw [← v2] at f2
    refine o_callc qrf (addK br p256 (val 18446744073709551616 row2 % 18446744073709551616) cs3 e row2 G H2 hGH2 hbr w2' l2' d2 (by omega) hu2 f2) ?_
    rintro w3 H3 ⟨cs4, row3, e3, w3', l3', d3, v3⟩
    have hGH3 : G.le H3 := le_eq (put_eq e3 (put_eq e2 k5)) (GH.le_refl _) hbr
    have hv3 : val 18446744073709551616 row3 % 18446744073709551616 = 0 := by rw [v3]; exact low1
    obtain ⟨s1, s2, s3⟩ := shiftK (n := 4) l3' d3 hv3
    (repeat' (first | (with_reducible refine i_ops ?_; first | refine o_nil ?_ | (refine g_pure ?_; refine s_slcA0 ?_)) | (with_reducible refine i_vc ?_; first | refine v_seq ?_ | refine v_drawG G qle ?_) | (with_reducible refine i_plan ?_; refine s_preN ?_) | (with_reducible refine n_then ?_)))
    refine s_slcA1 (i := 1) ?_
    (repeat' (first | (with_reducible refine i_ops ?_; refine o_nil ?_) | (with_reducible refine i_plan ?_; refine s_alt ?_)))
    have x2 : Nu .u64 H3 (.slice (some ⟨br, 0 + 1, none⟩) 5 5) (row3.drop 1) := by
      have := (w3'.sub 1 5 (by omega)).nu' (n := 5) (by rw [List.length_take, List.length_drop]; omega)
      rwa [List.take_of_length_le (by rw [List.length_drop]; omega)] at this
    refine o_copyW qrf qrf w3' l3'.symm x2 (by rw [List.length_drop]; omega) ?_
    intro cs5 H5 e5 u5 w5
    have hGH5 : G.le H5 := le_eq (put_eq e5 (put_eq e3 (put_eq e2 k5))) (GH.le_refl _) hbr
    (repeat' (first | (with_reducible refine i_ops ?_; first | refine o_nil ?_ | (refine g_pure ?_; refine s_iptrAc ?_)) | (with_reducible refine i_vc ?_; refine v_ops ?_) | (with_reducible refine i_plan ?_; refine p_done ?_) | (with_reducible first | refine n_then ?_ | (refine g_stand ?_; refine s_stand ?_))))
    refine o_hstoreW (i := 5) (k := .u64) (v := 0) qrf w5 (by rw [List.length_append]; simp only [List.length_drop]; omega) qrf ?_
    intro cs6 H6 e6 u6 w6
    (repeat' (first | (with_reducible refine i_ops ?_; first | (refine g_mv ?_; refine s_mv ?_) | refine o_nil ?_ | (refine g_pure ?_; refine s_naddc ?_)) | (with_reducible refine i_vc ?_; refine v_ops ?_) | (with_reducible first | refine n_then ?_ | refine n_block ?_)))
    have hv4 : val 18446744073709551616 ((row3.drop 1 ++ row3.drop (row3.drop 1).length).set (4 + 1) 0) * 18446744073709551616 = val 18446744073709551616 row + a * (fd 18446744073709551616 4 b).getD i 0 + (val 18446744073709551616 row2 % 18446744073709551616) * p256 := by
      rw [s1, v3, v2, Nat.mul_comm p256]
    refine ⟨4 - (i + 1), by omega, (i + 1, _, cs6, H6, k + (val 18446744073709551616 row2 % 18446744073709551616) * 18446744073709551616 ^ i), rfl, ⟨by dsimp only; omega, s2, s3, w6, put_eq e6 (put_eq e5 (put_eq e3 (put_eq e2 k5))), ?_, mont_lt (by decide) k7 hy hu2 hv4, k_next k8 hu2⟩, qhs, qhl, rfl⟩
    dsimp only
    rw [val_take_succ]
    exact mont_inv k6 hv4
  · have hi : i = 4 := by omega
    subst hi
    have P0 := k4.ptr0 (i := 0) (by omega)
    have P1 := k4.ptr0 (i := 1) (by omega)
    have P2 := k4.ptr0 (i := 2) (by omega)
    have P3 := k4.ptr0 (i := 3) (by omega)
    have P4 := k4.ptr0 (i := 4) (by omega)
    (repeat' (with_reducible refine i_ops ?_; first | (refine g_build ?_; refine s_build ?_) | (refine g_pure ?_; refine s_iptrAc ?_) | (refine g_hload ?_; refine s_hloadP ?_)))
    have hrow := val6 k2
    have d4 := k3.getD (by decide) 4
    have dt := val4_lt (k3.take 4) (by rw [List.length_take]; omega)
    rw [fd4, val_fd4 hbT, b644] at k6
    rw [b644] at k8
    have hlt : val 18446744073709551616 row < 2 * p256 := by
      have h1 : k * p256 ≤ 115792089237316195423570985008687907853269984665640564039457584007913129639935 * p256 := Nat.mul_le_mul_right _ (by omega)
      generalize a * b = p at *
      omega
    rw [b644, b645] at hrow
    have hx : [row.getD 0 0, row.getD 1 0, row.getD 2 0, row.getD 3 0] = fd 18446744073709551616 4 (val 18446744073709551616 (row.take 4)) := by
      rw [← fd_of (k3.take 4) (by rw [List.length_take]; omega) rfl, four k2]
    have c1 : HC Try.prog 66 #[.agg (na [row.getD 0 0, row.getD 1 0, row.getD 2 0, row.getD 3 0]), iv .u64 (row.getD 4 0)] H fun v G' => v = nv ((val 18446744073709551616 (row.take 4) + row.getD 4 0 * 115792089237316195423570985008687907853269984665640564039457584007913129639936) % p256) ∧ G' = H := by
      rw [hx]; exact subK (val 18446744073709551616 (row.take 4)) (row.getD 4 0) H dt (by omega) (by omega)
    refine o_callp qrf c1 ?_
    (repeat' (first | (with_reducible refine i_ops ?_; first | refine o_nil ?_ | (refine g_lstore ?_; refine s_lstoreW ?_)) | (with_reducible refine i_vc ?_; refine v_ret ?_) | (with_reducible refine n_then ?_) | ((with_reducible refine s_ret ?_); try simp only [x_tup0, x_tup1, x_tup2, x_tup3, x_tup4, x_tup5, and_true, true_and])))
    rw [na_ext (fd_len _ _ _)]
    refine ⟨?_, hGH⟩
    have e5 : val 18446744073709551616 (row.take 4) + row.getD 4 0 * 115792089237316195423570985008687907853269984665640564039457584007913129639936 = val 18446744073709551616 row := by omega
    rw [e5]
    have hm := mM_of (t := val 18446744073709551616 row % p256) (a := a) (b := b) (Nat.mod_lt _ (by rw [hp]; decide)) (by
      rw [Nat.mul_mod, Nat.mod_mod, ← Nat.mul_mod, k6, Nat.add_mul_mod_self_right])
    rw [hm]
end Go.Proofs.Ytdeihgcgglhhcaa.V
end
section
/- The field's numbers, as they stand times 2 to the power 256. -/
set_option linter.unusedSimpArgs false
set_option linter.unusedVariables false
-- @nums
-- @extra s_naddc s_nadd
-- @pre g_lload s_lloadF s_lloadV s_lloadW
-- @pre g_lstore s_lstoreF s_lstoreV s_lstoreW
-- @pre g_lbox s_lboxF s_lboxW
namespace Go.Proofs.Ytdeihgcgglhhcaa.V
open Go.RowKit Go.ChangeShapes Go.WideShapes
instance : NeZero p256 := ⟨by decide⟩
abbrev Fp := Fin p256
def of (n : Nat) : Fp := Fin.ofNat p256 n
theorem of_val (n : Nat) : (of n).val = n % p256 := rfl
theorem p_pos : 0 < p256 := by decide
/-- A number of the field times 2 to the power 256. -/
def mo (x : Fp) : Nat := x.val * 115792089237316195423570985008687907853269984665640564039457584007913129639936 % p256
theorem mo_lt (x : Fp) : mo x < p256 := Nat.mod_lt _ p_pos
theorem p_lt : p256 < 115792089237316195423570985008687907853269984665640564039457584007913129639936 := by decide
theorem mo_ltT (x : Fp) : mo x < 115792089237316195423570985008687907853269984665640564039457584007913129639936 := Nat.lt_trans (mo_lt x) p_lt
theorem mo_out (x : Fp) : mo x * ri256 % p256 = x.val := by
  unfold mo
  rw [Nat.mul_mod, Nat.mod_mod, ← Nat.mul_mod, Nat.mul_assoc, Nat.mul_mod, ri_one, Nat.mul_one, Nat.mod_mod, Nat.mod_eq_of_lt x.isLt]
theorem mo_inj {x y : Fp} (h : mo x = mo y) : x = y := by
  have h1 := mo_out x
  rw [h, mo_out] at h1
  exact Fin.ext h1.symm
theorem mo_add (x y : Fp) : (mo x + mo y) % p256 = mo (x + y) := by
  unfold mo
  rw [Fin.val_add, ← Nat.add_mod, ← Nat.add_mul, Nat.mul_mod ((x.val + y.val) % p256), Nat.mod_mod, ← Nat.mul_mod]
theorem sub_mod {a b M : Nat} (ha : a < M) (hb : b < M) : ((a + b) % M + (M - b)) % M = a := by
  by_cases h : a + b < M
  · rw [Nat.mod_eq_of_lt h, show a + b + (M - b) = a + M by omega, Nat.add_mod_right, Nat.mod_eq_of_lt ha]
  · have e : (a + b) % M = a + b - M := by rw [Nat.mod_eq_sub_mod (by omega), Nat.mod_eq_of_lt (by omega)]
    rw [e, show a + b - M + (M - b) = a by omega, Nat.mod_eq_of_lt ha]
theorem mo_sub (x y : Fp) : (mo x + (p256 - mo y)) % p256 = mo (x - y) := by
  have e : x - y + y = x := by grind
  have h := mo_add (x - y) y
  rw [e] at h
  rw [← h, sub_mod (mo_lt _) (mo_lt _)]
theorem mo_mul (x y : Fp) : mM (mo x) (mo y) = mo (x * y) := by
  unfold mM mo
  have e : (x * y).val * 115792089237316195423570985008687907853269984665640564039457584007913129639936 % p256 = x.val * 115792089237316195423570985008687907853269984665640564039457584007913129639936 * (y.val * 115792089237316195423570985008687907853269984665640564039457584007913129639936) * ri256 % p256 := by
    rw [Fin.val_mul, Nat.mul_mod (x.val * y.val % p256), Nat.mod_mod, ← Nat.mul_mod]
    have : x.val * 115792089237316195423570985008687907853269984665640564039457584007913129639936 * (y.val * 115792089237316195423570985008687907853269984665640564039457584007913129639936) * ri256 = x.val * y.val * 115792089237316195423570985008687907853269984665640564039457584007913129639936 * (115792089237316195423570985008687907853269984665640564039457584007913129639936 * ri256) := by
      simp only [Nat.mul_assoc, Nat.mul_left_comm, Nat.mul_comm]
    rw [this, Nat.mul_mod (x.val * y.val * 115792089237316195423570985008687907853269984665640564039457584007913129639936), ri_one, Nat.mul_one, Nat.mod_mod]
  rw [e, Nat.mul_mod, Nat.mul_mod (x.val * 115792089237316195423570985008687907853269984665640564039457584007913129639936 % p256), Nat.mod_mod, Nat.mod_mod, ← Nat.mul_mod (x.val * 115792089237316195423570985008687907853269984665640564039457584007913129639936), ← Nat.mul_mod]
theorem mo_sq (n : Nat) : mM n sq256 = mo (of n) := by
  unfold mM mo
  rw [of_val, Nat.mul_mod (n % p256), Nat.mod_mod, ← Nat.mul_mod, Nat.mul_assoc, Nat.mul_mod, show sq256 * ri256 % p256 = 115792089237316195423570985008687907853269984665640564039457584007913129639936 % p256 by decide, ← Nat.mul_mod]
theorem mo_one (x : Fp) : mM (mo x) 1 = x.val := by
  unfold mM
  rw [Nat.mul_one]; exact mo_out x
theorem of_inj {x : Fp} : of x.val = x := by
  refine Fin.ext ?_
  rw [of_val, Nat.mod_eq_of_lt x.isLt]
/-- A number of the field as the program has it. -/
def fv (x : Fp) : Value := nv (mo x)
section
variable {P : Program} {E : Env} {K : St → Prop} {r : List Stp} {dd : Option Nat} {L : SL} {A : AL} {G : GH}
theorem s_lloadF {d k s0 : Nat} {x : Fp} {cs : Array Value} (h : vops P E r K (S (.set d (fv x) L) A G)) (hp : L.get s0 = some (.int .u64 0) := by with_unfolding_all rfl) (hc : A.get k = some cs ∧ cs = (fv x).cells := by (refine ⟨by with_unfolding_all rfl, ?_⟩; with_reducible rfl)) : vops P E (⟨none, dd, .lload d k s0 4 true⟩ :: r) K (S L A G) :=
  o_lload hp hc.1 (by rw [hc.2]; exact x_takeA (cs := (fv x).cells) rfl) h
theorem s_lboxF {d k : Nat} {o : Operand} {x : Fp} {v : Value} {ts : List Nat} (h : vops P E r K (S (.set d (.int .u64 0) (.kill ts L)) (.set k (fv x).cells A) G)) (hx : evo L o = some v ∧ v = fv x := by (refine ⟨by with_unfolding_all rfl, ?_⟩; with_reducible rfl)) (ho : onceE E.env = true := by with_unfolding_all rfl) (hk : slotsOf E.env k = some ts := by with_unfolding_all rfl) : vops P E (⟨none, dd, .lbox d k o⟩ :: r) K (S L A G) := o_lbox ho hk hx.1 (by rw [hx.2]) h
theorem s_lstoreF {k s0 : Nat} {o : Operand} {x : Fp} {v : Value} {cs : Array Value} (h : vops P E r K (S L (.set k (fv x).cells A) G)) (hp : L.get s0 = some (.int .u64 0) := by with_unfolding_all rfl) (hx : evo L o = some v ∧ v = fv x := by (refine ⟨by with_unfolding_all rfl, ?_⟩; with_reducible rfl)) (hc : A.get k = some cs ∧ cs.size = 4 := by (refine ⟨by with_unfolding_all rfl, by with_unfolding_all rfl⟩)) : vops P E (⟨none, dd, .lstore k s0 4 o⟩ :: r) K (S L A G) := by
  refine o_lstoreA (vs := (fd 18446744073709551616 4 (mo x)).map (iv .u64)) (y := fv x) hp hc.1 (by rw [hx.1, hx.2]) rfl (by simp [fd_len]) hc.2.symm (nu_cells _ _) h
end
theorem plusF (x y : Fp) (G : GH) : HC Try.prog 55 #[fv x, fv y] G fun v G' => v = fv (x + y) ∧ G' = G := by
  have := plusK (mo x) (mo y) G (mo_lt x) (mo_lt y)
  rwa [mo_add] at this
theorem minusF (x y : Fp) (G : GH) : HC Try.prog 48 #[fv x, fv y] G fun v G' => v = fv (x - y) ∧ G' = G := by
  have := minusK (mo x) (mo y) G (mo_lt x) (mo_lt y)
  rwa [mo_sub] at this
theorem timesF (x y : Fp) (G : GH) : HC Try.prog 51 #[fv x, fv y] G fun v G' => v = fv (x * y) ∧ G.le G' := by
  have := timesK (mo x) (mo y) G (mo_ltT x) (mo_ltT y) (Nat.mul_lt_mul_of_lt_of_le (mo_ltT x) (Nat.le_of_lt (mo_lt y)) p_pos)
  rwa [mo_mul] at this
theorem timesSq (n : Nat) (hn : n < 115792089237316195423570985008687907853269984665640564039457584007913129639936) (G : GH) : HC Try.prog 51 #[nv n, nv sq256] G fun v G' => v = fv (of n) ∧ G.le G' := by
  have := timesK n sq256 G hn (by decide) (Nat.mul_lt_mul_of_lt_of_le hn (by decide) p_pos)
  rwa [mo_sq] at this
theorem timesOne (x : Fp) (G : GH) : HC Try.prog 51 #[fv x, nv 1] G fun v G' => v = nv x.val ∧ G.le G' := by
  have := timesK (mo x) 1 G (mo_ltT x) (by decide) (by have := mo_ltT x; have : 1 ≤ p256 := p_pos; exact Nat.mul_lt_mul_of_lt_of_le (mo_ltT x) this p_pos)
  rwa [mo_one] at this
theorem fv_ext (x : Fp) : Value.agg ((fv x).cells.extract 0 4) = fv x := by
  have := na_ext (n := 4) (fd_len 18446744073709551616 4 (mo x))
  show Value.agg ((na (fd 18446744073709551616 4 (mo x))).extract 0 4) = nv (mo x)
  rw [this]
theorem threeF (x : Fp) (G : GH) : HC Try.prog 54 #[fv x] G fun v G' => v = fv (x + x + x) ∧ G' = G := by
  refine HC.start comp54 rfl ?_; unfold pc54
  (repeat' (first | (with_reducible refine i_ops ?_; first | refine o_nil ?_ | (refine g_lload ?_; refine s_lloadF ?_) | (refine g_lstore ?_; refine s_lstoreF ?_) | (refine g_lalloc ?_; refine s_lalloc ?_) | (refine g_lbox ?_; refine s_lboxF ?_)) | (with_reducible refine i_vc ?_; first | refine v_seq ?_ | refine v_ops ?_ | refine v_ret ?_ | refine v_draw0 ?_) | (with_reducible refine i_plan ?_; first | refine p_done ?_ | refine s_pre ?_ | refine p_callp qrf (by exact plusF _ _ _) qle ?_ p_no | refine s_alt ?_) | (with_reducible first | refine n_then ?_ | (refine g_stand ?_; refine s_standL ?_)) | ((with_reducible refine s_ret ?_); try simp only [x_tup0, x_tup1, x_tup2, x_tup3, x_tup4, x_tup5, and_true, true_and])))
  exact fv_ext _
theorem timesSq1 (G : GH) : HC Try.prog 51 #[.agg #[.int .u64 1, .int .u64 0, .int .u64 0, .int .u64 0], nv sq256] G fun v G' => v = fv 1 ∧ G.le G' := timesSq 1 (by decide) G
theorem timesOne1 (x : Fp) (G : GH) : HC Try.prog 51 #[fv x, .agg #[.int .u64 1, .int .u64 0, .int .u64 0, .int .u64 0]] G fun v G' => v = nv x.val ∧ G.le G' := timesOne x G
theorem coefficientF (G : GH) : HC Try.prog 56 #[] G fun v G' => v = fv (of co256) ∧ G.le G' := by
  refine HC.start comp56 rfl ?_; unfold pc56
  have c1 : HC Try.prog 51 #[.agg #[.int .u64 4309448131093880907, .int .u64 7285987128567378166, .int .u64 12964664127075681980, .int .u64 6540974713487397863], nv sq256] G fun v G' => v = fv (of co256) ∧ G.le G' := timesSq co256 (by decide) G
  (repeat' (first | (with_reducible refine i_ops ?_; first | refine o_nil ?_ | (refine g_build ?_; refine s_build ?_) | (refine g_lstore ?_; refine s_lstoreF ?_) | (refine g_lalloc ?_; refine s_lalloc ?_) | refine o_callp qrf (by exact squareK _) ?_ | (refine o_callg qrf (by exact c1) ?_; intro G' hle)) | (with_reducible refine i_vc ?_; first | refine v_seq ?_ | refine v_ops ?_ | refine v_ret ?_) | (with_reducible refine n_then ?_) | ((with_reducible refine s_ret ?_); try simp only [x_tup0, x_tup1, x_tup2, x_tup3, x_tup4, x_tup5, and_true, true_and])))
  rw [fv_ext]
  exact ⟨rfl, by assumption⟩
/-- Powers. -/
def fpow (x : Fp) (n : Nat) : Fp := if n = 0 then 1 else if n % 2 = 1 then fpow x (n / 2) * fpow x (n / 2) * x else fpow x (n / 2) * fpow x (n / 2)
termination_by n
decreasing_by all_goals omega
theorem fpow_zero (x : Fp) : fpow x 0 = 1 := by unfold fpow; rfl
theorem fpow_step (x : Fp) (n m : Nat) (h : n / 2 = m) : fpow x n = if n % 2 = 1 then fpow x m * fpow x m * x else fpow x m * fpow x m := by
  subst h
  by_cases h0 : n = 0
  · subst h0; rw [if_neg (by decide), fpow_zero]; rfl
  · conv => lhs; unfold fpow
    rw [if_neg h0]
def inv256 : Nat := 115792089210356248762697446949407573530086143415290314195533631308867097853949
def finv (x : Fp) : Fp := fpow x inv256
theorem bitK (e j : Nat) (hj : j < 256) : ((fd 18446744073709551616 4 e).getD (j / 64) 0 / 2 ^ (j % 64) &&& 1) % 18446744073709551616 = e / 2 ^ j % 2 := by
  rw [fd_getD 18446744073709551616 e (by omega), Nat.and_one_is_mod]
  have e1 : (18446744073709551616 : Nat) ^ (j / 64) = 2 ^ (64 * (j / 64)) := by rw [Nat.pow_mul]
  have e2 : (18446744073709551616 : Nat) = 2 ^ (j % 64) * 2 ^ (64 - j % 64) := by rw [← Nat.pow_add, show j % 64 + (64 - j % 64) = 64 by omega]
  have e3 : e / 18446744073709551616 ^ (j / 64) % 18446744073709551616 / 2 ^ (j % 64) % 2 = e / 2 ^ j % 2 := by
    rw [e1]
    conv => lhs; arg 1; arg 1; arg 2; rw [e2]
    rw [Nat.mod_mul_right_div_self, Nat.mod_mod_of_dvd _ (by rw [show 64 - j % 64 = (63 - j % 64) + 1 by omega, Nat.pow_succ]; exact Nat.dvd_mul_left _ _), Nat.div_div_eq_div_mul, ← Nat.pow_add, show 64 * (j / 64) + j % 64 = j by omega]
  rw [e3]; omega
end Go.Proofs.Ytdeihgcgglhhcaa.V
end
section
/- What gives 1 with a number of the field. -/
set_option linter.unusedSimpArgs false
set_option linter.unusedVariables false
set_option maxRecDepth 20000
-- @nums
-- @extra s_naddc s_nsubL s_nquoc s_nremc s_wshr s_wandc s_wsubc
-- @pre g_lload s_lloadF s_lloadV s_lloadW
-- @pre g_lstore s_lstoreF s_lstoreV s_lstoreW
-- @pre g_lbox s_lboxF s_lboxW
namespace Go.Proofs.Ytdeihgcgglhhcaa.V
open Go.RowKit Go.ChangeShapes Go.WideShapes
theorem inv_half (i : Nat) (h : i < 256) : inv256 / 2 ^ (255 - i) / 2 = inv256 / 2 ^ (256 - i) := by
  rw [Nat.div_div_eq_div_mul, ← Nat.pow_succ, show (255 - i).succ = 256 - i by omega]
theorem invertF (x : Fp) (G : GH) : HC Try.prog 57 #[fv x] G fun v G' => v = fv (finv x) ∧ G.le G' := by
  refine HC.start comp57 rfl ?_; unfold pc57
  (repeat' (first | (with_reducible refine i_ops ?_; first | refine o_nil ?_ | (refine g_lstore ?_; refine s_lstoreA ?_) | (refine g_lindex ?_; refine s_lindex ?_) | (refine g_lalloc ?_; refine s_lalloc ?_) | (refine g_lbox ?_; refine s_lboxF ?_) | refine o_callp qrf (by exact modulusK _) ?_) | (with_reducible refine i_vc ?_; first | refine v_seq ?_ | refine v_ops ?_) | (with_reducible refine n_then ?_)))
  have l1 := fd_len 18446744073709551616 4 p256
  refine s_lloadV (i := 0) ?_
  (repeat' (first | (with_reducible refine i_ops ?_; first | (refine g_mv ?_; refine s_mv ?_) | refine o_nil ?_ | (refine g_build ?_; refine s_buildP ?_) | (refine g_pure ?_; refine s_wsubc ?_) | (refine g_lstore ?_; first | refine s_lstoreF ?_ | refine s_lstoreV ?_) | (refine g_lindex ?_; refine s_lindex ?_) | (refine g_lalloc ?_; refine s_lalloc ?_) | refine o_callp qrf (by exact squareK _) ?_ | (refine o_callg qrf (by exact timesSq1 _) ?_; intro G' hle)) | (with_reducible refine i_vc ?_; first | refine v_seq ?_ | refine v_ops ?_ | refine v_block ?_) | (with_reducible refine n_then ?_)))
  refine v_loopX (α := Nat × GH) (fun y => y.1 ≤ 256 ∧ G.le y.2)
    (fun y => [(1, .int .u64 0), (2, .int .u64 0), (3, .int .u64 0), (4, .int .u64 0), (14, iv .i64 y.1)]) (fun y => [(1, (fv x).cells), (2, na [0, 0, 0, 0]), (3, na (fd 18446744073709551616 4 inv256)), (4, (fv (fpow x (inv256 / 2 ^ (256 - y.1)))).cells)]) (fun y => y.2) (fun y => 256 - y.1) (0, _)
    ⟨Nat.zero_le _, by assumption⟩ qhs ⟨AL.get_fn qrf, AL.get_fn qrf, AL.get_fn qrf, ?_, trivial⟩ rfl ?_
  · refine AL.get_fn ?_
    show _ = some (fv (fpow x (inv256 / 2 ^ 256))).cells
    rw [show inv256 / 2 ^ 256 = 0 by decide, fpow_zero]
    rfl
  rintro ⟨i, H⟩ s ll ⟨k1, k2⟩
  dsimp only at k1 k2
  dsimp only [SL.sets, AL.sets]
  have l1 := fd_len 18446744073709551616 4 inv256
  have g := fd_lt (B := 18446744073709551616) (by decide) 4 inv256 ((255 - i) / 64)
  (repeat' (first | (with_reducible refine i_ops ?_; first | (refine g_mv ?_; refine s_mv ?_) | refine o_nil ?_ | (refine g_pure ?_; first | refine s_naddc ?_ | refine s_nsubL ?_ | refine s_nquoc ?_ | refine s_nremc ?_ | refine s_wshr ?_ | refine s_wandc ?_ | refine s_pure ?_) | (refine g_lload ?_; first | refine s_lloadF ?_ | refine s_lloadV ?_) | (refine g_lstore ?_; refine s_lstoreF ?_) | (refine g_lindex ?_; refine s_lindex ?_) | (refine o_callg qrf (by exact timesF _ _ _) ?_; intro G' hle)) | (with_reducible refine i_vc ?_; first | refine v_seq ?_ | refine v_ops ?_ | (refine g_cond ?_; first | refine s_cond_t ?_ | refine s_cond_f ?_) | refine v_block ?_ | refine v_skip ?_ | refine v_exit ?_ | refine v_ret ?_) | (with_reducible first | refine n_then ?_ | refine e_then ?_ | refine n_block ?_ | refine e_block_eq qrf ?_) | ((with_reducible refine s_cond_c ?_ ?_) <;> intro hb <;> rw [hb] <;> (try simp only [decide_eq_true_eq, decide_eq_false_iff_not, beq_iff_eq, bne_iff_ne, beq_eq_false_iff_ne, bne_eq_false_iff_eq, ne_eq, Int.not_lt, Int.not_le, gt_iff_lt, ge_iff_le, Bool.not_eq_true', Bool.not_eq_false'] at hb)) | ((with_reducible refine s_ret ?_); try simp only [x_tup0, x_tup1, x_tup2, x_tup3, x_tup4, x_tup5, and_true, true_and])))
  · have hbit := bitK inv256 (255 - i) (by omega)
    have hst := fpow_step x (inv256 / 2 ^ (255 - i)) (inv256 / 2 ^ (256 - i)) (inv_half i (by omega))
    rw [if_pos (by omega)] at hst
    refine ⟨256 - (i + 1), by omega, (i + 1, _), rfl, ⟨by dsimp only; omega, by dsimp only; exact qle⟩, qhs, ⟨AL.get_fn qrf, AL.get_fn qrf, AL.get_fn qrf, ?_, trivial⟩, rfl⟩
    dsimp only
    rw [show 256 - (i + 1) = 255 - i by omega, hst]
    exact AL.get_fn qrf
  · have hbit := bitK inv256 (255 - i) (by omega)
    have hst := fpow_step x (inv256 / 2 ^ (255 - i)) (inv256 / 2 ^ (256 - i)) (inv_half i (by omega))
    rw [if_neg (by omega)] at hst
    refine ⟨256 - (i + 1), by omega, (i + 1, _), rfl, ⟨by dsimp only; omega, by dsimp only; exact qle⟩, qhs, ⟨AL.get_fn qrf, AL.get_fn qrf, AL.get_fn qrf, ?_, trivial⟩, rfl⟩
    dsimp only
    rw [show 256 - (i + 1) = 255 - i by omega, hst]
    exact AL.get_fn qrf
  · have hi : i = 256 := by omega
    subst hi
    rw [fv_ext]
    refine ⟨?_, k2⟩
    unfold finv
    rw [Nat.sub_self, Nat.pow_zero, Nat.div_one]
end Go.Proofs.Ytdeihgcgglhhcaa.V
end
section
/- Numbers as 32 bytes, the highest first. -/
set_option linter.unusedSimpArgs false
set_option linter.unusedVariables false
namespace Go.Proofs.Ytdeihgcgglhhcaa.V
open Go.RowKit
/-- The number that bytes say, the highest first. -/
def be (l : List UInt8) : Nat := l.foldl (fun n b => n * 256 + b.toNat) 0
theorem be_from (l : List UInt8) : ∀ n, l.foldl (fun n b => n * 256 + b.toNat) n = n * 256 ^ l.length + be l := by
  induction l with
  | nil => intro n; simp [be]
  | cons b l ih =>
    intro n
    have h0 : be (b :: l) = b.toNat * 256 ^ l.length + be l := by
      show List.foldl _ (0 * 256 + b.toNat) l = _
      rw [ih, Nat.zero_mul, Nat.zero_add]
    rw [List.foldl_cons, ih, h0, List.length_cons, Nat.pow_succ, Nat.add_mul, Nat.mul_assoc, Nat.mul_comm 256, Nat.add_assoc]
theorem be_app (a b : List UInt8) : be (a ++ b) = be a * 256 ^ b.length + be b := by
  rw [be, List.foldl_append, be_from b]; rfl
theorem be_push (a : List UInt8) (x : UInt8) : be (a ++ [x]) = be a * 256 + x.toNat := by
  rw [be_app]; simp [be]
theorem be_cons (x : UInt8) (l : List UInt8) : be (x :: l) = x.toNat * 256 ^ l.length + be l := by
  have := be_app [x] l
  simpa [be] using this
theorem be_lt : ∀ l : List UInt8, be l < 256 ^ l.length
  | [] => by simp [be]
  | x :: l => by
    have h1 := be_lt l
    have h2 := x.toNat_lt
    have h3 := Nat.mul_le_mul_right (256 ^ l.length) (show x.toNat ≤ 255 by omega)
    rw [be_cons, List.length_cons, Nat.pow_succ, Nat.mul_comm _ 256]
    generalize 256 ^ l.length = t at *
    omega
/-- A number's n lowest bytes, the highest first. -/
def beN (n m : Nat) : List UInt8 := (List.range n).map fun i => UInt8.ofNat (m / 256 ^ (n - 1 - i))
theorem beN_len (n m : Nat) : (beN n m).length = n := by simp [beN]
theorem beN_cons (n m : Nat) : beN (n + 1) m = UInt8.ofNat (m / 256 ^ n) :: beN n m := by
  unfold beN
  rw [List.range_succ_eq_map, List.map_cons, List.map_map]
  congr 1
  apply List.map_congr_left
  intro i hi
  have := List.mem_range.1 hi
  show UInt8.ofNat (m / 256 ^ (n + 1 - 1 - (i + 1))) = _
  rw [show n + 1 - 1 - (i + 1) = n - 1 - i by omega]
theorem beN_be : ∀ {l : List UInt8} {n : Nat} (k : Nat), l.length = n → beN n (be l + 256 ^ n * k) = l
  | [], n, k, h => by subst h; rfl
  | x :: l, n, k, h => by
    subst h
    have h1 := be_lt l
    have h2 := x.toNat_lt
    rw [List.length_cons, beN_cons, be_cons, Nat.pow_succ]
    have e : x.toNat * 256 ^ l.length + be l + 256 ^ l.length * 256 * k = be l + 256 ^ l.length * (x.toNat + 256 * k) := by
      rw [Nat.mul_add, Nat.mul_assoc, Nat.mul_comm x.toNat]; omega
    rw [e, beN_be _ rfl, Nat.add_mul_div_left _ _ (Nat.pow_pos (by decide)), Nat.div_eq_of_lt h1, Nat.zero_add]
    congr 1
    apply UInt8.toNat_inj.1
    rw [UInt8.toNat_ofNat']; omega
theorem beN_be' {l : List UInt8} {n : Nat} (h : l.length = n) : beN n (be l) = l := by simpa using beN_be 0 h
theorem be_beN : ∀ n m : Nat, be (beN n m) = m % 256 ^ n
  | 0, m => by simp [beN, be, Nat.mod_one]
  | n + 1, m => by
    have h := Nat.mod_mul (a := 256 ^ n) (b := 256) (x := m)
    rw [beN_cons, be_cons, be_beN n m, beN_len, UInt8.toNat_ofNat', show (256 : Nat) ^ (n + 1) = 256 ^ n * 256 from Nat.pow_succ _ _, h, Nat.add_comm, Nat.mul_comm]
/-- A part of m bytes. -/
def chk (m j : Nat) (l : List UInt8) : List UInt8 := (l.drop (m * j)).take m
theorem chk_take (m j n : Nat) (l : List UInt8) : chk m j (l.take n) = (l.drop (m * j)).take (min m (n - m * j)) := by
  unfold chk
  rw [List.drop_take, List.take_take]
theorem chk_same {m j i : Nat} {l : List UInt8} (h1 : m * j ≤ i) (h2 : i < m * (j + 1)) (h : i < l.length) : chk m j (l.take (i + 1)) = chk m j (l.take i) ++ [l.getD i 0] := by
  rw [Nat.mul_add, Nat.mul_one] at h2
  rw [chk_take, chk_take, Nat.min_eq_right (by omega), Nat.min_eq_right (by omega), show i + 1 - m * j = (i - m * j) + 1 by omega, List.take_succ_eq_append_getElem (by rw [List.length_drop]; omega), List.getElem_drop, List.getD_eq_getElem?_getD, List.getElem?_eq_getElem h]
  simp only [show m * j + (i - m * j) = i by omega, Option.getD_some]
theorem chk_other {m j i : Nat} {l : List UInt8} (h : i < m * j ∨ m * (j + 1) ≤ i) : chk m j (l.take (i + 1)) = chk m j (l.take i) := by
  rw [Nat.mul_add, Nat.mul_one] at h
  rw [chk_take, chk_take]
  congr 1
  omega
theorem chk_len' {m j i : Nat} {l : List UInt8} (h2 : i < m * (j + 1)) : (chk m j (l.take i)).length < m ∨ m = 0 := by
  rw [Nat.mul_add, Nat.mul_one] at h2
  rw [chk_take, List.length_take, List.length_drop]; omega
theorem val_chk {m : Nat} (hm : 0 < m) : ∀ {n : Nat} {a : List Nat} {l : List UInt8}, a.length = n → l.length = m * n → (∀ j, j < n → a.getD (n - 1 - j) 0 = be (chk m j l)) → val (256 ^ m) a = be l
  | 0, a, l, ha, hl, _ => by
    have h1 := List.eq_nil_of_length_eq_zero ha
    have h2 : l = [] := List.eq_nil_of_length_eq_zero (by simpa using hl)
    subst h1 h2; rfl
  | n + 1, x :: a, l, ha, hl, h => by
    have h0 := h n (by omega)
    rw [show n + 1 - 1 - n = 0 by omega, List.getD_cons_zero] at h0
    rw [Nat.mul_add, Nat.mul_one] at hl
    have ih := val_chk hm (a := a) (l := l.take (m * n)) (by simpa using ha) (by rw [List.length_take]; omega) fun j hj => by
      have := h j (by omega)
      rw [show n + 1 - 1 - j = (n - 1 - j) + 1 by omega, List.getD_cons_succ] at this
      rw [this, chk_take]
      have h3 : m * (j + 1) ≤ m * n := Nat.mul_le_mul_left _ (by omega)
      rw [Nat.mul_add, Nat.mul_one] at h3
      rw [Nat.min_eq_left (by omega)]; rfl
    have e : chk m n l = l.drop (m * n) := by
      unfold chk
      rw [List.take_of_length_le (by rw [List.length_drop]; omega)]
    rw [val, ih, h0, e]
    conv => rhs; rw [← List.take_append_drop (m * n) l, be_app]
    rw [List.length_drop, show l.length - m * n = m by omega, Nat.mul_comm (256 ^ m), Nat.add_comm]
/-- Bytes as cells. -/
abbrev bca (l : List UInt8) : Array Value := (l.map bv).toArray
abbrev dK (l : List UInt8) : Value := .agg (bca l)
theorem bca_get {l : List UInt8} {i : Nat} (h : i < l.length) : (bca l)[i]? = some (bv (l.getD i 0)) := by
  rw [List.getElem?_toArray, List.getElem?_map, List.getD_eq_getElem?_getD, List.getElem?_eq_getElem h]; rfl
theorem bca_ext {l : List UInt8} {n : Nat} (h : l.length = n) : Value.agg ((bca l).extract 0 n) = dK l := by
  have : n = (bca l).size := by simpa using h.symm
  rw [this, Array.extract_size]
/-- A row of n bytes, filled from the front. -/
def filN (n : Nat) (L : List UInt8) : List UInt8 := L ++ List.replicate (n - L.length) 0
theorem filN_len {n : Nat} {L : List UInt8} (h : L.length ≤ n) : (filN n L).length = n := by simp [filN]; omega
theorem filN_set {n : Nat} {L : List UInt8} (h : L.length < n) (v : UInt8) : (filN n L).set L.length v = filN n (L ++ [v]) := by
  unfold filN
  rw [List.set_append_right _ _ (Nat.le_refl _), Nat.sub_self, show n - L.length = (n - (L ++ [v]).length) + 1 by simp; omega, List.replicate_succ, List.set_cons_zero, List.append_assoc]; rfl
theorem filN_all {n : Nat} {L : List UInt8} (h : L.length = n) : filN n L = L := by unfold filN; rw [h]; simp
section
variable {P : Program} {E : Env} {K : St → Prop} {r : List Stp} {dd : Option Nat} {L : SL} {A : AL} {G : GH}
theorem s_lloadK {d k s0 i : Nat} {ws : List UInt8} (h : vops P E r K (S (.set d (bv (ws.getD i 0)) L) A G)) (hp : L.get s0 = some (iv .u64 i) := by with_unfolding_all rfl) (hc : A.get k = some (bca ws) := by with_unfolding_all rfl) (hl : i < ws.length := by omega) : vops P E (⟨none, dd, .lload d k s0 1 false⟩ :: r) K (S L A G) :=
  o_lload hp hc (by rw [x_take1, Int.toNat_natCast, bca_get hl]) h
theorem s_lstoreK {k s0 i : Nat} {x : Operand} {v : UInt8} {ws : List UInt8} (h : vops P E r K (S L (.set k (bca (ws.set i v)) A) G)) (hp : L.get s0 = some (iv .u64 i) := by with_unfolding_all rfl) (hc : A.get k = some (bca ws) := by with_unfolding_all rfl) (hx : evo L x = some (bv v) := by with_unfolding_all rfl) (hl : i < ws.length := by omega) : vops P E (⟨none, dd, .lstore k s0 1 x⟩ :: r) K (S L A G) := by
  refine o_lstore (vs := [bv v]) hp hc hx rfl ⟨rfl, ?_, rfl⟩ ?_ h
  · simp; omega
  · simp only [wr, bca]
    rw [List.map_set]
    simp
theorem s_lloadD {d k s0 n : Nat} {ws : List UInt8} (h : vops P E r K (S (.set d (dK ws) L) A G)) (hp : L.get s0 = some (.int .u64 0) := by with_unfolding_all rfl) (hc : A.get k = some (bca ws) ∧ ws.length = n := by (refine ⟨by with_unfolding_all rfl, ?_⟩; first | assumption | exact beN_len _ _ | with_unfolding_all rfl)) : vops P E (⟨none, dd, .lload d k s0 n true⟩ :: r) K (S L A G) :=
  o_lload hp hc.1 (by rw [← hc.2]; have := x_takeA (cs := bca ws) (n := ws.length) (by simp); exact this) h
theorem bca_cells (l : List UInt8) : cells1 (l.map bv) = true := by simp [cells1, bv, Value.oneCell']
theorem s_lstoreD {k s0 n : Nat} {x : Operand} {ws vs : List UInt8} (h : vops P E r K (S L (.set k (bca vs) A) G)) (hp : L.get s0 = some (.int .u64 0) := by with_unfolding_all rfl) (hc : A.get k = some (bca ws) ∧ ws.length = n := by (refine ⟨by with_unfolding_all rfl, ?_⟩; first | assumption | exact beN_len _ _ | with_unfolding_all rfl)) (hx : evo L x = some (dK vs) ∧ vs.length = n := by (refine ⟨by with_unfolding_all rfl, ?_⟩; first | assumption | exact beN_len _ _ | with_unfolding_all rfl)) : vops P E (⟨none, dd, .lstore k s0 n x⟩ :: r) K (S L A G) := by
  refine o_lstoreA (y := dK vs) hp hc.1 hx.1 rfl (by simpa using hx.2) (by simpa using hc.2.symm) (bca_cells _) h
theorem s_lboxD {d k : Nat} {x : Operand} {ws : List UInt8} {ts : List Nat} (h : vops P E r K (S (.set d (.int .u64 0) (.kill ts L)) (.set k (bca ws) A) G)) (hx : evo L x = some (dK ws) := by with_unfolding_all rfl) (ho : onceE E.env = true := by with_unfolding_all rfl) (hk : slotsOf E.env k = some ts := by with_unfolding_all rfl) : vops P E (⟨none, dd, .lbox d k x⟩ :: r) K (S L A G) := o_lbox ho hk hx rfl h
/-- A word's lowest byte. -/
theorem s_tou8 {d : Nat} {xs : List Operand} {x : Nat} (h : vops P E r K (S (.set d (bv (UInt8.ofNat x)) L) A G)) (hx : evs L xs = some [.int .u64 x] := by with_unfolding_all rfl) : vops P E (⟨none, dd, .pure d (.convI .u8) xs⟩ :: r) K (S L A G) := by
  refine o_pure hx ?_ h
  rw [x_convI]
  rw [wrap_u8]
  simp only [bv, UInt8.toNat_ofNat']
  congr 2
end
end Go.Proofs.Ytdeihgcgglhhcaa.V
end
section
/- Bytes read as numbers of the field, and written: the program's read and bytes, the document's From and To. -/
set_option linter.unusedSimpArgs false
set_option linter.unusedVariables false
set_option maxRecDepth 20000
-- @nums
-- @extra s_eqN s_naddc s_nadd s_nsubL s_nquoc s_nremc s_nmulc s_wconv s_wshlc s_wshr s_wmulc s_wadd s_wor s_tou8
-- @pre g_lload s_lloadF s_lloadK s_lloadV s_lloadD s_lloadW
-- @pre g_lstore s_lstoreF s_lstoreK s_lstoreV s_lstoreD s_lstoreW
-- @pre g_lbox s_lboxF s_lboxD s_lboxW
namespace Go.Proofs.Ytdeihgcgglhhcaa.V
open Go.RowKit Go.ChangeShapes Go.WideShapes
theorem be_max {l : List UInt8} {m : Nat} (h : l.length < m) : be l * 256 < 256 ^ m := by
  have h1 := be_lt l
  have h2 : 256 ^ (l.length + 1) ≤ 256 ^ m := Nat.pow_le_pow_right (by decide) h
  rw [Nat.pow_succ] at h2
  omega
theorem shl_or {x y : Nat} (hx : x * 256 < 18446744073709551616) (hy : y < 256) : x * 2 ^ 8 % 18446744073709551616 ||| y = x * 256 + y := by
  rw [show x * 2 ^ 8 = x * 256 from rfl, Nat.mod_eq_of_lt hx]
  have := Nat.two_pow_add_eq_or_of_lt (i := 8) (b := y) (by omega) x
  rw [Nat.mul_comm (2 ^ 8) x] at this
  exact this.symm
theorem chk_next {m q i n : Nat} {l : List UInt8} {a : List Nat} (h1 : m * q ≤ i) (h2 : i < m * (q + 1)) (h : i < l.length) (hq : q < n) (ha : a.length = n) (k : ∀ j, j < n → a.getD (n - 1 - j) 0 = be (chk m j (l.take i))) :
    ∀ j, j < n → (a.set (n - 1 - q) (a.getD (n - 1 - q) 0 * 256 + (l.getD i 0).toNat)).getD (n - 1 - j) 0 = be (chk m j (l.take (i + 1))) := by
  intro j hj
  by_cases e : j = q
  · subst e
    rw [set_getD_eq _ (by omega), chk_same h1 h2 h, be_push, k j hj]
  · rw [set_getD_ne _ (by omega), k j hj]
    rw [chk_other]
    rcases Nat.lt_or_ge j q with e2 | e2
    · right; have := Nat.mul_le_mul_left m (show j + 1 ≤ q by omega); omega
    · left; have := Nat.mul_le_mul_left m (show q + 1 ≤ j by omega); omega
theorem readF (l : List UInt8) (G : GH) (hl : l.length = 32) : HC Try.prog 53 #[dK l] G fun v G' => v = .tuple #[fv (of (be l)), .bool (decide (be l < p256))] ∧ G.le G' := by
  refine HC.start comp53 rfl ?_; unfold pc53
  (repeat' (first | (with_reducible refine i_ops ?_; first | (refine g_mv ?_; refine s_mv ?_) | refine o_nil ?_ | (refine g_lalloc ?_; refine s_lalloc ?_) | (refine g_lbox ?_; refine s_lboxD ?_)) | (with_reducible refine i_vc ?_; first | refine v_seq ?_ | refine v_ops ?_ | refine v_block ?_) | (with_reducible refine n_then ?_)))
  refine v_loopX (α := Nat × List Nat) (fun x => x.1 ≤ 32 ∧ x.2.length = 4 ∧ Dl 18446744073709551616 x.2 ∧ (∀ j, j < 4 → x.2.getD (4 - 1 - j) 0 = be (chk 8 j (l.take x.1))))
    (fun x => [(1, .int .u64 0), (2, .int .u64 0), (4, .int .u64 0), (6, iv .i64 x.1)]) (fun x => [(1, bca l), (2, na [0, 0, 0, 0]), (4, na x.2)]) (fun _ => G) (fun x => 32 - x.1) (0, [0, 0, 0, 0])
    ⟨Nat.zero_le _, rfl, Dl.rep 4 (by decide), fun j hj => by rw [List.take_zero, show chk 8 j [] = [] by simp [chk]]; match j, hj with | 0, _ | 1, _ | 2, _ | 3, _ => rfl⟩ qhs qhl rfl ?_
  rintro ⟨i, a⟩ s ll ⟨k1, k2, k3, k4⟩
  dsimp only at k1 k2 k3 k4
  dsimp only [SL.sets, AL.sets]
  have hb8 := (l.getD i 0).toNat_lt
  have hx := k3.getD (by decide) (3 - i / 8)
  (repeat' (first | (with_reducible refine i_ops ?_; first | (refine g_mv ?_; refine s_mv ?_) | refine o_nil ?_ | (refine g_pure ?_; first | refine s_naddc ?_ | refine s_nsubL ?_ | refine s_nquoc ?_ | refine s_wconv ?_ | refine s_wshlc ?_ | refine s_wor ?_ | refine s_pure ?_) | (refine g_lload ?_; first | refine s_lloadK ?_ | refine s_lloadV ?_ | refine s_lloadW ?_) | (refine g_lstore ?_; refine s_lstoreV ?_) | (refine g_lindex ?_; refine s_lindex ?_)) | (with_reducible refine i_vc ?_; first | refine v_seq ?_ | refine v_ops ?_ | (refine g_cond ?_; first | refine s_cond_t ?_ | refine s_cond_f ?_) | refine v_block ?_ | refine v_skip ?_ | refine v_exit ?_ | refine v_draw0 ?_) | (with_reducible refine i_plan ?_; first | refine p_done ?_ | refine s_pre ?_ | refine p_callp qrf (by exact squareK _) qle ?_ p_no | refine s_alt ?_) | (with_reducible first | refine n_then ?_ | refine e_then ?_ | refine n_block ?_ | refine e_block_eq qrf ?_ | (refine g_stand ?_; first | refine s_stand ?_ | refine s_standL ?_)) | ((with_reducible refine s_cond_c ?_ ?_) <;> intro hb <;> rw [hb] <;> (try simp only [decide_eq_true_eq, decide_eq_false_iff_not, beq_iff_eq, bne_iff_ne, beq_eq_false_iff_ne, bne_eq_false_iff_eq, ne_eq, Int.not_lt, Int.not_le, gt_iff_lt, ge_iff_le, Bool.not_eq_true', Bool.not_eq_false'] at hb))))
  · have e4 := k4 (i / 8) (by omega)
    rw [show 4 - 1 - i / 8 = 3 - i / 8 by omega] at e4
    have hm : a.getD (3 - i / 8) 0 * 256 < 18446744073709551616 := by
      rw [e4]
      exact be_max (m := 8) (by have := chk_len' (m := 8) (j := i / 8) (i := i) (l := l) (by omega); omega)
    rw [shl_or hm hb8]
    exact ⟨32 - (i + 1), by omega, (i + 1, a.set (3 - i / 8) (a.getD (3 - i / 8) 0 * 256 + (l.getD i 0).toNat)), rfl, ⟨by dsimp only; omega, by simpa using k2, k3.set _ (by omega), chk_next (m := 8) (q := i / 8) (n := 4) (by omega) (by omega) (by omega) (by omega) k2 k4⟩, qhs, qhl, rfl⟩
  have hi : i = 32 := by omega
  subst hi
  rw [List.take_of_length_le (by omega)] at k4
  have hv := val_chk (m := 8) (by decide) k2 (by omega) k4
  have hT := be_lt l
  rw [hl] at hT
  have e := fd_of k3 k2 hv
  subst e
  have c1 := timesSq (be l) hT
  have hp2 : (256 : Nat) ^ 32 < 2 * p256 := by decide
  have c2 : ∀ G, HC Try.prog 66 #[nv (be l), .int .u64 0] G fun v G' => v = nv (be l % p256) ∧ G' = G := fun G => subK (be l) 0 G hT (by decide) (by omega)
  have h1 : be l % p256 < 18446744073709551616 ^ 4 := Nat.lt_of_lt_of_le (Nat.mod_lt _ p_pos) (by decide)
  have h2 : be l < 18446744073709551616 ^ 4 := hT
  have hd : decide (be l % p256 = be l) = decide (be l < p256) := by
    rw [decide_eq_decide]
    exact ⟨fun h => by rw [← h]; exact Nat.mod_lt _ p_pos, Nat.mod_eq_of_lt⟩
  (repeat' (first | (with_reducible refine i_ops ?_; first | (refine g_mv ?_; refine s_mv ?_) | refine o_nil ?_ | (refine g_pure ?_; refine s_eqN ?_) | (refine g_lstore ?_; refine s_lstoreF ?_) | (refine o_callg qrf (by exact c1 _) ?_; intro G' hle)) | (with_reducible refine i_vc ?_; refine v_ret ?_) | (with_reducible refine i_plan ?_; first | refine p_done ?_ | refine s_preN ?_ | refine p_callp qrf (by exact c2 _) qle ?_ p_no | refine s_alt ?_) | (with_reducible first | refine n_then ?_ | (refine g_stand ?_; first | refine s_stand ?_ | refine s_standL ?_)) | ((with_reducible refine s_ret ?_); try simp only [x_tup0, x_tup1, x_tup2, x_tup3, x_tup4, x_tup5, and_true, true_and])))
  rw [hd, fv_ext]
  exact ⟨rfl, by assumption⟩
theorem byteK {wb c q n s : Nat} (hq : q < c) (hs : s + 8 ≤ wb) : UInt8.ofNat ((fd (2 ^ wb) c n).getD q 0 / 2 ^ s) = UInt8.ofNat (n / 2 ^ (wb * q + s)) := by
  rw [fd_getD _ n hq]
  apply UInt8.toNat_inj.1
  rw [UInt8.toNat_ofNat', UInt8.toNat_ofNat']
  have e2 : (2 : Nat) ^ wb = 2 ^ s * 2 ^ (wb - s) := by rw [← Nat.pow_add, show s + (wb - s) = wb by omega]
  conv => lhs; arg 1; arg 1; arg 2; rw [e2]
  rw [Nat.mod_mul_right_div_self, Nat.mod_mod_of_dvd _ (by rw [show wb - s = (wb - s - 8) + 8 by omega, Nat.pow_add]; exact Nat.dvd_mul_left _ _), ← Nat.pow_mul, Nat.div_div_eq_div_mul, ← Nat.pow_add]
theorem beN_getD {n m i : Nat} (h : i < n) : (beN n m).getD i 0 = UInt8.ofNat (m / 256 ^ (n - 1 - i)) := by
  unfold beN
  rw [List.getD_eq_getElem?_getD, List.getElem?_map, List.getElem?_range h]; rfl
theorem take_push {l : List UInt8} {i : Nat} (h : i < l.length) : l.take (i + 1) = l.take i ++ [l.getD i 0] := by
  rw [List.take_succ_eq_append_getElem h, List.getD_eq_getElem?_getD, List.getElem?_eq_getElem h]; rfl
theorem fil_next {l : List UInt8} {i n : Nat} (hl : l.length = n) (h : i < n) : (filN n (l.take i)).set i (l.getD i 0) = filN n (l.take (i + 1)) := by
  have e : (l.take i).length = i := by rw [List.length_take]; omega
  have := filN_set (n := n) (L := l.take i) (by omega) (l.getD i 0)
  rw [e] at this
  rw [this, take_push (by omega)]
theorem pow8 (k : Nat) : (256 : Nat) ^ k = 2 ^ (8 * k) := by rw [Nat.pow_mul]
theorem bytesF (x : Fp) (G : GH) : HC Try.prog 58 #[fv x] G fun v G' => v = dK (beN 32 x.val) ∧ G.le G' := by
  have l1 := fd_len 18446744073709551616 4 x.val
  refine HC.start comp58 rfl ?_; unfold pc58
  (repeat' (first | (with_reducible refine i_ops ?_; first | (refine g_mv ?_; refine s_mv ?_) | refine o_nil ?_ | (refine g_build ?_; refine s_buildP ?_) | (refine g_lload ?_; refine s_lloadF ?_) | (refine g_lstore ?_; refine s_lstoreA ?_) | (refine g_lalloc ?_; refine s_lalloc ?_) | (refine g_lbox ?_; refine s_lboxF ?_) | (refine o_callg qrf (by exact timesOne1 _ _) ?_; intro G' hle)) | (with_reducible refine i_vc ?_; first | refine v_seq ?_ | refine v_ops ?_ | refine v_block ?_) | (with_reducible refine n_then ?_)))
  have b32 := beN_len 32 x.val
  refine v_loopX (α := Nat) (fun i => i ≤ 32)
    (fun i => [(2, .int .u64 0), (3, .int .u64 0), (4, .int .u64 0), (9, iv .i64 i)]) (fun i => [(2, bca (List.replicate 32 0)), (3, na (fd 18446744073709551616 4 x.val)), (4, bca (filN 32 ((beN 32 x.val).take i)))]) (fun _ => _) (fun i => 32 - i) 0
    (Nat.zero_le _) qhs qhl rfl ?_
  rintro i s ll k1
  dsimp only [SL.sets, AL.sets]
  have hx := fd_lt (B := 18446744073709551616) (by decide) 4 x.val (3 - i / 8)
  have hf : (filN 32 ((beN 32 x.val).take i)).length = 32 := filN_len (by rw [List.length_take]; omega)
  (repeat' (first | (with_reducible refine i_ops ?_; first | (refine g_mv ?_; refine s_mv ?_) | refine o_nil ?_ | (refine g_pure ?_; first | refine s_naddc ?_ | refine s_nsubL ?_ | refine s_nquoc ?_ | refine s_nremc ?_ | refine s_nmulc ?_ | refine s_wshr ?_ | refine s_tou8 ?_ | refine s_pure ?_) | (refine g_lload ?_; first | refine s_lloadV ?_ | refine s_lloadD ?_) | (refine g_lstore ?_; first | refine s_lstoreK ?_ | refine s_lstoreD ?_) | (refine g_lindex ?_; refine s_lindex ?_)) | (with_reducible refine i_vc ?_; first | refine v_seq ?_ | refine v_ops ?_ | (refine g_cond ?_; first | refine s_cond_t ?_ | refine s_cond_f ?_) | refine v_block ?_ | refine v_skip ?_ | refine v_exit ?_ | refine v_ret ?_) | (with_reducible first | refine n_then ?_ | refine e_then ?_ | refine n_block ?_ | refine e_block_eq qrf ?_) | ((with_reducible refine s_cond_c ?_ ?_) <;> intro hb <;> rw [hb] <;> (try simp only [decide_eq_true_eq, decide_eq_false_iff_not, beq_iff_eq, bne_iff_ne, beq_eq_false_iff_ne, bne_eq_false_iff_eq, ne_eq, Int.not_lt, Int.not_le, gt_iff_lt, ge_iff_le, Bool.not_eq_true', Bool.not_eq_false'] at hb))))
  · refine ⟨32 - (i + 1), by omega, i + 1, rfl, by omega, qhs, ⟨AL.get_fn qrf, AL.get_fn qrf, ?_, trivial⟩, rfl⟩
    refine AL.get_fn ?_
    have e := byteK (wb := 64) (c := 4) (q := 3 - i / 8) (n := x.val) (s := 56 - i % 8 * 8) (by omega) (by omega)
    have e2 := fil_next b32 (show i < 32 by omega)
    rw [beN_getD (by omega), pow8, show 8 * (32 - 1 - i) = 64 * (3 - i / 8) + (56 - i % 8 * 8) by omega, ← e] at e2
    rw [← e2]
    rfl
  · have hi : i = 32 := by omega
    subst hi
    have e : filN 32 (List.take 32 (beN 32 x.val)) = beN 32 x.val := by rw [List.take_of_length_le (by omega), filN_all b32]
    rw [e]
    ((with_reducible first | refine s_ret ?_ | refine s_normal ?_); try simp only [x_tup0, x_tup1, x_tup2, x_tup3, x_tup4, x_tup5, and_true, true_and])
    rw [bca_ext b32]
    exact ⟨rfl, by assumption⟩
theorem fromR (l : List UInt8) (G : GH) (hl : l.length = 32) : HC Try.prog 37 #[dK l] G fun v G' => v = fw (be l) ∧ G' = G := by
  refine HC.start comp37 rfl ?_; unfold pc37
  (repeat' (first | (with_reducible refine i_ops ?_; first | (refine g_mv ?_; refine s_mv ?_) | refine o_nil ?_ | (refine g_lalloc ?_; refine s_lalloc ?_) | (refine g_lbox ?_; refine s_lboxD ?_)) | (with_reducible refine i_vc ?_; first | refine v_seq ?_ | refine v_ops ?_ | refine v_block ?_) | (with_reducible refine n_then ?_)))
  refine v_loopX (α := Nat × List Nat) (fun x => x.1 ≤ 32 ∧ x.2.length = 8 ∧ Dl 4294967296 x.2 ∧ (∀ j, j < 8 → x.2.getD (8 - 1 - j) 0 = be (chk 4 j (l.take x.1))))
    (fun x => [(1, .int .u64 0), (2, .int .u64 0), (3, .int .u64 0), (4, iv .i64 x.1)]) (fun x => [(1, bca l), (2, na [0, 0, 0, 0, 0, 0, 0, 0]), (3, na x.2)]) (fun _ => G) (fun x => 32 - x.1) (0, [0, 0, 0, 0, 0, 0, 0, 0])
    ⟨Nat.zero_le _, rfl, Dl.rep 8 (by decide), fun j hj => by rw [List.take_zero, show chk 4 j [] = [] by simp [chk]]; match j, hj with | 0, _ | 1, _ | 2, _ | 3, _ | 4, _ | 5, _ | 6, _ | 7, _ => rfl⟩ qhs qhl rfl ?_
  rintro ⟨i, a⟩ s ll ⟨k1, k2, k3, k4⟩
  dsimp only at k1 k2 k3 k4
  dsimp only [SL.sets, AL.sets]
  have hb8 := (l.getD i 0).toNat_lt
  have hx := k3.getD (by decide) (7 - i / 4)
  (repeat' (first | (with_reducible refine i_ops ?_; first | (refine g_mv ?_; refine s_mv ?_) | refine o_nil ?_ | (refine g_pure ?_; first | refine s_naddc ?_ | refine s_nsubL ?_ | refine s_nquoc ?_ | refine s_wconv ?_ | refine s_wmulc ?_ | refine s_wadd ?_ | refine s_pure ?_) | (refine g_lload ?_; first | refine s_lloadK ?_ | refine s_lloadV ?_ | refine s_lloadW ?_) | (refine g_lstore ?_; first | refine s_lstoreV ?_ | refine s_lstoreW ?_) | (refine g_lindex ?_; refine s_lindex ?_)) | (with_reducible refine i_vc ?_; first | refine v_seq ?_ | refine v_ops ?_ | (refine g_cond ?_; first | refine s_cond_t ?_ | refine s_cond_f ?_) | refine v_block ?_ | refine v_skip ?_ | refine v_exit ?_ | refine v_ret ?_ | refine v_draw0 ?_) | (with_reducible refine i_plan ?_; first | refine p_done ?_ | refine s_pre ?_ | refine s_alt ?_) | (with_reducible first | refine n_then ?_ | refine e_then ?_ | refine n_block ?_ | refine e_block_eq qrf ?_ | (refine g_stand ?_; first | refine s_stand ?_ | refine s_standL ?_)) | ((with_reducible refine s_cond_c ?_ ?_) <;> intro hb <;> rw [hb] <;> (try simp only [decide_eq_true_eq, decide_eq_false_iff_not, beq_iff_eq, bne_iff_ne, beq_eq_false_iff_ne, bne_eq_false_iff_eq, ne_eq, Int.not_lt, Int.not_le, gt_iff_lt, ge_iff_le, Bool.not_eq_true', Bool.not_eq_false'] at hb))))
  · have e4 := k4 (i / 4) (by omega)
    rw [show 8 - 1 - i / 4 = 7 - i / 4 by omega] at e4
    have hm : a.getD (7 - i / 4) 0 * 256 < 4294967296 := by
      rw [e4]
      exact be_max (m := 4) (by have := chk_len' (m := 4) (j := i / 4) (i := i) (l := l) (by omega); omega)
    have e5 : (a.getD (7 - i / 4) 0 * 256 % 18446744073709551616 + (l.getD i 0).toNat) % 18446744073709551616 = a.getD (7 - i / 4) 0 * 256 + (l.getD i 0).toNat := by omega
    rw [e5]
    exact ⟨32 - (i + 1), by omega, (i + 1, a.set (7 - i / 4) (a.getD (7 - i / 4) 0 * 256 + (l.getD i 0).toNat)), rfl, ⟨by dsimp only; omega, by simpa using k2, k3.set _ (by omega), chk_next (m := 4) (q := i / 4) (n := 8) (by omega) (by omega) (by omega) (by omega) k2 k4⟩, qhs, qhl, rfl⟩
  have hi : i = 32 := by omega
  subst hi
  rw [List.take_of_length_le (by omega)] at k4
  have hv := val_chk (m := 4) (by decide) k2 (by omega) k4
  have e := fd_of k3 k2 hv
  subst e
  ((with_reducible first | refine s_ret ?_ | refine s_normal ?_); try simp only [x_tup0, x_tup1, x_tup2, x_tup3, x_tup4, x_tup5, and_true, true_and])
  rw [na_ext (fd_len _ _ _)]
end Go.Proofs.Ytdeihgcgglhhcaa.V
end
section
/- The document's numbers of eight words. -/
set_option linter.unusedSimpArgs false
set_option linter.unusedVariables false
set_option maxRecDepth 20000
-- @nums
-- @extra s_iptrA s_iptrAc s_nilck s_fptr0 s_eqN s_naddc s_nadd s_nsubL s_nsubc s_wadd s_wsub s_waddL s_wsubL s_wquoc s_wremc s_wmul
-- @pre g_lload s_lloadV s_lloadW
-- @pre g_lstore s_lstoreV s_lstoreW
-- @pre g_lbox s_lboxW
namespace Go.Proofs.Ytdeihgcgglhhcaa.V
open Go.RowKit Go.ChangeShapes Go.WideShapes
def n256 : Nat := 115792089210356248762697446949407573529996955224135760342422259061068512044369
theorem b328 : (4294967296 : Nat) ^ 8 = 115792089237316195423570985008687907853269984665640564039457584007913129639936 := by decide
theorem fd8 (n : Nat) : (fd 4294967296 8 n).take 8 = fd 4294967296 8 n := List.take_of_length_le (by rw [fd_len]; omega)
theorem val_fd8 {n : Nat} (h : n < 115792089237316195423570985008687907853269984665640564039457584007913129639936) : val 4294967296 (fd 4294967296 8 n) = n := by
  rw [val_fd, b328, Nat.mod_eq_of_lt h]
theorem minusR (a b : Nat) (G : GH) (ha : a < 115792089237316195423570985008687907853269984665640564039457584007913129639936) (hbT : b < 115792089237316195423570985008687907853269984665640564039457584007913129639936) : HC Try.prog 59 #[fw a, fw b] G fun v G' => v = .tuple #[fw ((a + (115792089237316195423570985008687907853269984665640564039457584007913129639936 - b)) % 115792089237316195423570985008687907853269984665640564039457584007913129639936), .bool (decide (a < b))] ∧ G' = G := by
  have l1 := fd_len 4294967296 8 a
  have l2 := fd_len 4294967296 8 b
  refine HC.start comp59 rfl ?_; unfold pc59
  (repeat' (first | (with_reducible refine i_ops ?_; first | (refine g_mv ?_; refine s_mv ?_) | refine o_nil ?_ | (refine g_lalloc ?_; refine s_lalloc ?_) | (refine g_lbox ?_; refine s_lboxW ?_)) | (with_reducible refine i_vc ?_; first | refine v_seq ?_ | refine v_ops ?_ | refine v_block ?_) | (with_reducible refine n_then ?_)))
  refine v_loopX (α := Nat × Nat × List Nat) (fun x => x.1 ≤ 8 ∧ x.2.1 ≤ 1 ∧ x.2.2.length = 8 ∧ Dl 4294967296 x.2.2 ∧ val 4294967296 (x.2.2.take x.1) + val 4294967296 ((fd 4294967296 8 b).take x.1) = val 4294967296 ((fd 4294967296 8 a).take x.1) + 4294967296 ^ x.1 * x.2.1)
    (fun x => [(2, .int .u64 0), (3, .int .u64 0), (4, .int .u64 0), (6, .int .u64 0), (7, iv .u64 x.2.1), (8, iv .i64 x.1)]) (fun x => [(2, na (fd 4294967296 8 a)), (3, na (fd 4294967296 8 b)), (4, na [0, 0, 0, 0, 0, 0, 0, 0]), (6, na x.2.2)]) (fun _ => G) (fun x => 8 - x.1) (0, 0, [0, 0, 0, 0, 0, 0, 0, 0])
    ⟨Nat.zero_le _, Nat.zero_le _, rfl, Dl.rep 8 (by decide), by simp [val]⟩ qhs qhl rfl ?_
  rintro ⟨i, w, o⟩ s ll ⟨k1, k2, k3, k4, k5⟩
  dsimp only at k1 k2 k3 k4 k5
  dsimp only [SL.sets, AL.sets]
  have g1 := fd_lt (B := 4294967296) (by decide) 8 a i
  have g2 := fd_lt (B := 4294967296) (by decide) 8 b i
  (repeat' (first | (with_reducible refine i_ops ?_; first | (refine g_mv ?_; refine s_mv ?_) | refine o_nil ?_ | (refine g_pure ?_; first | refine s_naddc ?_ | refine s_wadd ?_ | refine s_wsub ?_ | refine s_wquoc ?_ | refine s_wremc ?_ | refine s_pure ?_) | (refine g_lload ?_; first | refine s_lloadV ?_ | refine s_lloadW ?_) | (refine g_lstore ?_; first | refine s_lstoreV ?_ | refine s_lstoreW ?_) | (refine g_lindex ?_; refine s_lindex ?_)) | (with_reducible refine i_vc ?_; first | refine v_seq ?_ | refine v_ops ?_ | (refine g_cond ?_; first | refine s_cond_t ?_ | refine s_cond_f ?_) | refine v_block ?_ | refine v_skip ?_ | refine v_exit ?_ | refine v_ret ?_ | refine s_drawl ?_) | (with_reducible first | refine n_then ?_ | refine e_then ?_ | refine n_block ?_ | refine e_block_eq qrf ?_) | ((with_reducible refine s_cond_c ?_ ?_) <;> intro hb <;> rw [hb] <;> (try simp only [decide_eq_true_eq, decide_eq_false_iff_not, beq_iff_eq, bne_iff_ne, beq_eq_false_iff_ne, bne_eq_false_iff_eq, ne_eq, Int.not_lt, Int.not_le, gt_iff_lt, ge_iff_le, Bool.not_eq_true', Bool.not_eq_false'] at hb))))
  · generalize hx : (fd 4294967296 8 a).getD i 0 = x at *
    generalize hy : (fd 4294967296 8 b).getD i 0 = y at *
    have e : ((((4294967296 + x) % 18446744073709551616 + 18446744073709551616 - y) % 18446744073709551616 + 18446744073709551616 - w) % 18446744073709551616) = 4294967296 + x - y - w := by omega
    simp only [e]
    obtain ⟨w2, e2, e3, e4⟩ : ∃ w2, (1 + 18446744073709551616 - (4294967296 + x - y - w) / 4294967296) % 18446744073709551616 = w2 ∧ w2 ≤ 1 ∧ (4294967296 + x - y - w) % 4294967296 + y + w = x + 4294967296 * w2 := ⟨_, rfl, by omega, by omega⟩
    simp only [e2]
    exact ⟨8 - (i + 1), by omega, (i + 1, w2, o.set i ((4294967296 + x - y - w) % 4294967296)), rfl, ⟨by dsimp only; omega, e3, by simpa using k3, k4.set i (Nat.mod_lt _ (by decide)), sub_step k5 (by omega) hx hy e4⟩, qhs, qhl, rfl⟩
  have hi : i = 8 := by omega
  subst hi
  obtain ⟨m, hm, rfl⟩ := fd_ex k4 k3
  rw [b328] at hm
  rw [fd8, fd8, fd8, val_fd8 ha, val_fd8 hbT, val_fd8 hm, b328] at k5
  ((with_reducible first | refine s_ret ?_ | refine s_normal ?_); try simp only [x_tup0, x_tup1, x_tup2, x_tup3, x_tup4, x_tup5, and_true, true_and])
  rw [na_ext (fd_len _ _ _)]
  have e1 : m = (a + (115792089237316195423570985008687907853269984665640564039457584007913129639936 - b)) % 115792089237316195423570985008687907853269984665640564039457584007913129639936 := by omega
  have e2 : ((w : Int) == 1) = decide (a < b) := by
    rw [Bool.eq_iff_iff, beq_iff_eq, decide_eq_true_eq]; omega
  rw [e2, ← e1]
theorem fd_less {B k a b n : Nat} (hB : 0 < B) (ha : a < B ^ k) (hb : b < B ^ k) (he : (fd B k a).drop (n + 1) = (fd B k b).drop (n + 1)) (hl : (fd B k a).getD n 0 < (fd B k b).getD n 0) : a < b := by
  have := val_less (B := B) hB (fd_dl hB k a) he hl
  rwa [val_fd, val_fd, Nat.mod_eq_of_lt ha, Nat.mod_eq_of_lt hb] at this
theorem lessR (a b : Nat) (G : GH) (ha : a < 115792089237316195423570985008687907853269984665640564039457584007913129639936) (hbT : b < 115792089237316195423570985008687907853269984665640564039457584007913129639936) : HC Try.prog 38 #[fw a, fw b] G fun v G' => v = .bool (decide (a < b)) ∧ G' = G := by
  have l1 := fd_len 4294967296 8 a
  have l2 := fd_len 4294967296 8 b
  refine HC.start comp38 rfl ?_; unfold pc38
  (repeat' (first | (with_reducible refine i_ops ?_; first | (refine g_mv ?_; refine s_mv ?_) | refine o_nil ?_ | (refine g_lbox ?_; refine s_lboxW ?_)) | (with_reducible refine i_vc ?_; first | refine v_seq ?_ | refine v_ops ?_ | refine v_block ?_) | (with_reducible refine n_then ?_)))
  refine v_loopX (α := Nat) (fun n => n ≤ 8 ∧ (fd 4294967296 8 a).drop n = (fd 4294967296 8 b).drop n)
    (fun n => [(2, .int .u64 0), (3, .int .u64 0), (5, .int .i64 (if n = 0 then -1 else ((n - 1 : Nat) : Int)))]) (fun n => [(2, na (fd 4294967296 8 a)), (3, na (fd 4294967296 8 b))]) (fun _ => G) (fun n => n) 8
    ⟨Nat.le_refl _, by rw [List.drop_of_length_le (by omega), List.drop_of_length_le (by omega)]⟩ qhs qhl rfl ?_
  rintro n s ll ⟨k1, k2⟩
  dsimp only [SL.sets, AL.sets]
  rcases n with _ | n
  · rw [if_pos rfl]
    (repeat' (first | (with_reducible refine i_ops ?_; first | (refine g_mv ?_; refine s_mv ?_) | refine o_nil ?_ | (refine g_pure ?_; refine s_pure ?_) | (refine g_lindex ?_; refine s_lindex ?_)) | (with_reducible refine i_vc ?_; first | refine v_seq ?_ | refine v_ops ?_ | (refine g_cond ?_; first | refine s_cond_t ?_ | refine s_cond_f ?_) | refine v_block ?_ | refine v_skip ?_ | refine v_exit ?_ | refine v_ret ?_ | refine s_drawl ?_) | (with_reducible first | refine n_then ?_ | refine e_then ?_ | refine e_block_eq qrf ?_) | ((with_reducible refine s_cond_c ?_ ?_) <;> intro hb <;> rw [hb] <;> (try simp only [decide_eq_true_eq, decide_eq_false_iff_not, beq_iff_eq, bne_iff_ne, beq_eq_false_iff_ne, bne_eq_false_iff_eq, ne_eq, Int.not_lt, Int.not_le, gt_iff_lt, ge_iff_le, Bool.not_eq_true', Bool.not_eq_false'] at hb)) | ((with_reducible refine s_ret ?_); try simp only [x_tup0, x_tup1, x_tup2, x_tup3, x_tup4, x_tup5, and_true, true_and])))
    · exact absurd hb (by decide)
    have e := fd_inj (B := 4294967296) (k := 8) (m := a) (n := b) (by rw [b328]; exact ha) (by rw [b328]; exact hbT) (by simpa using k2)
    subst e
    rw [decide_eq_false (by omega)]
  · rw [if_neg (by omega), Nat.add_sub_cancel]
    have g1 := fd_lt (B := 4294967296) (by decide) 8 a n
    have g2 := fd_lt (B := 4294967296) (by decide) 8 b n
    (repeat' (first | (with_reducible refine i_ops ?_; first | (refine g_mv ?_; refine s_mv ?_) | refine o_nil ?_ | (refine g_pure ?_; refine s_pure ?_) | (refine g_lload ?_; refine s_lloadV ?_) | (refine g_lindex ?_; refine s_lindex ?_)) | (with_reducible refine i_vc ?_; first | refine v_seq ?_ | refine v_ops ?_ | (refine g_cond ?_; first | refine s_cond_t ?_ | refine s_cond_f ?_) | refine v_block ?_ | refine v_skip ?_ | refine v_exit ?_ | refine v_ret ?_ | refine s_drawl ?_) | (with_reducible first | refine n_then ?_ | refine r_then ?_ | refine e_then ?_ | refine n_block ?_ | refine r_block ?_ | refine e_block_eq qrf ?_) | ((with_reducible refine s_cond_c ?_ ?_) <;> intro hb <;> rw [hb] <;> (try simp only [decide_eq_true_eq, decide_eq_false_iff_not, beq_iff_eq, bne_iff_ne, beq_eq_false_iff_ne, bne_eq_false_iff_eq, ne_eq, Int.not_lt, Int.not_le, gt_iff_lt, ge_iff_le, Bool.not_eq_true', Bool.not_eq_false'] at hb)) | ((with_reducible refine s_ret ?_); try simp only [x_tup0, x_tup1, x_tup2, x_tup3, x_tup4, x_tup5, and_true, true_and])))
    · have e : decide ((((fd 4294967296 8 a).getD n 0 : Nat) : Int) < (((fd 4294967296 8 b).getD n 0 : Nat) : Int)) = decide (a < b) := by
        rw [decide_eq_decide]
        rcases Nat.lt_or_ge ((fd 4294967296 8 a).getD n 0) ((fd 4294967296 8 b).getD n 0) with h | h
        · exact ⟨fun _ => fd_less (by decide) (by rw [b328]; exact ha) (by rw [b328]; exact hbT) k2 h, fun _ => by omega⟩
        · have := fd_less (B := 4294967296) (k := 8) (a := b) (b := a) (n := n) (by decide) (by rw [b328]; exact hbT) (by rw [b328]; exact ha) k2.symm (by omega)
          exact ⟨fun _ => by omega, fun _ => by omega⟩
      rw [e]
    · have e : ((n : Nat) : Int) - 1 = if n = 0 then -1 else ((n - 1 : Nat) : Int) := by split <;> omega
      rw [e]
      exact ⟨n, by omega, n, rfl, ⟨by omega, drop_step (by omega) (by omega) k2 (by omega)⟩, qhs, qhl, rfl⟩
    · omega
/-- What reckons modulo p: its cells. -/
def oc (m o q l : Nat) : Array Value := na (fd 4294967296 8 m ++ (fd 4294967296 8 o ++ (fd 4294967296 8 q ++ [l])))
def FQ (G : GH) (b o q : Nat) : Prop := ∃ e fr, G b = some (.cells (oc p256 o q 1) e fr)
def FO (G : GH) (b : Nat) : Prop := ∃ o q, FQ G b o q
theorem FQ.fo {G : GH} {b o q : Nat} (h : FQ G b o q) : FO G b := ⟨_, _, h⟩
theorem FQ.le {G G' : GH} {b o q : Nat} (h : FQ G b o q) (hl : G.le G') : FQ G' b o q := by
  obtain ⟨e, fr, h1⟩ := h
  exact ⟨e, fr, hl _ _ h1⟩
theorem FO.le {G G' : GH} {b : Nat} (h : FO G b) (hl : G.le G') : FO G' b := by
  obtain ⟨o, q, h1⟩ := h
  exact ⟨o, q, h1.le hl⟩
theorem FO.m {G : GH} {b i : Nat} (h : FO G b) (hi : i < 8) : PtR G (.pointer (some ⟨b, 0 + i, none⟩)) 1 false (iv .u64 ((fd 4294967296 8 p256).getD i 0)) := by
  obtain ⟨o, q, e, fr, h1⟩ := h
  refine ⟨b, 0 + i, _, e, fr, rfl, h1, ?_⟩
  rw [x_take1]
  match i, hi with
  | 0, _ | 1, _ | 2, _ | 3, _ | 4, _ | 5, _ | 6, _ | 7, _ => rfl
theorem FO.mw {G : GH} {b : Nat} (h : FO G b) : PtR G (.pointer (some ⟨b, 0, none⟩)) 8 true (fw p256) := by
  obtain ⟨o, q, e, fr, h1⟩ := h
  exact ⟨b, 0, _, e, fr, rfl, h1, rfl⟩
theorem FQ.one {G : GH} {b o q : Nat} (h : FQ G b o q) : PtR G (.pointer (some ⟨b, 8, none⟩)) 8 true (fw o) := by
  obtain ⟨e, fr, h1⟩ := h
  exact ⟨b, 8, _, e, fr, rfl, h1, rfl⟩
theorem FQ.sq {G : GH} {b o q : Nat} (h : FQ G b o q) : PtR G (.pointer (some ⟨b, 16, none⟩)) 8 true (fw q) := by
  obtain ⟨e, fr, h1⟩ := h
  exact ⟨b, 16, _, e, fr, rfl, h1, rfl⟩
theorem FO.low {G : GH} {b : Nat} (h : FO G b) : PtR G (.pointer (some ⟨b, 24, none⟩)) 1 false (iv .u64 1) := by
  obtain ⟨o, q, e, fr, h1⟩ := h
  exact ⟨b, 24, _, e, fr, rfl, h1, rfl⟩
end Go.Proofs.Ytdeihgcgglhhcaa.V
end
section
/- The document's products. -/
set_option linter.unusedSimpArgs false
set_option linter.unusedVariables false
set_option maxRecDepth 20000
-- @nums
-- @extra s_iptrA s_iptrAc s_nilck s_fptr0 s_eqN s_naddc s_nadd s_nsubL s_nsubc s_wadd s_wsub s_waddL s_wsubL s_wquoc s_wremc s_wmul
-- @pre g_lload s_lloadV s_lloadVc s_lloadW
-- @pre g_lstore s_lstoreV s_lstoreVc s_lstoreW
-- @pre g_lbox s_lboxW
namespace Go.Proofs.Ytdeihgcgglhhcaa.V
open Go.RowKit Go.ChangeShapes Go.WideShapes
theorem mul32 {x m r c : Nat} (hx : x < 4294967296) (hm : m < 4294967296) (hr : r < 4294967296) (hc : c < 4294967296) : r + x * m + c < 18446744073709551616 := by
  have h1 : x * m ≤ 4294967295 * 4294967295 := Nat.mul_le_mul (by omega) (by omega)
  omega
theorem kNext {B k u i : Nat} (hk : k < B ^ i) (hu : u < B) : k + u * B ^ i < B ^ (i + 1) := by
  have h1 : (u + 1) * B ^ i ≤ B * B ^ i := Nat.mul_le_mul_right _ (by omega)
  rw [Nat.pow_succ, Nat.mul_comm _ B]
  rw [Nat.add_mul, Nat.one_mul] at h1
  omega
/-- A row moved down by one place, step by step. -/
theorem down_step {B : Nat} {o q m : List Nat} {j c u z d : Nat} (h : B * val B (o.take j) + B ^ (j + 1) * c = val B (q.take (j + 1)) + val B (m.take (j + 1)) * u) (hj : j < o.length) (hz : z + B * d = q.getD (j + 1) 0 + m.getD (j + 1) 0 * u + c) :
    B * val B ((o.set j z).take (j + 1)) + B ^ (j + 1 + 1) * d = val B (q.take (j + 1 + 1)) + val B (m.take (j + 1 + 1)) * u := by
  rw [val_set_take B o hj, val_take_succ B q, val_take_succ B m, Nat.add_mul]
  have e1 : B ^ (j + 1 + 1) * d = B ^ (j + 1) * (B * d) := by rw [Nat.pow_succ B (j + 1), Nat.mul_assoc]
  have e2 : B * (val B (o.take j) + B ^ j * z) = B * val B (o.take j) + B ^ (j + 1) * z := by
    rw [Nat.mul_add, Nat.pow_succ, ← Nat.mul_assoc, Nat.mul_comm B (B ^ j)]
  have e3 : B ^ (j + 1) * z + B ^ (j + 1) * (B * d) = B ^ (j + 1) * q.getD (j + 1) 0 + B ^ (j + 1) * m.getD (j + 1) 0 * u + B ^ (j + 1) * c := by
    rw [← Nat.mul_add, hz, Nat.mul_add, Nat.mul_add, Nat.mul_assoc]
  rw [e1, e2]
  omega
theorem down_zero {B : Nat} {q m : List Nat} {u d : Nat} (h : B * d = q.getD 0 0 + m.getD 0 0 * u) : B * val B ((q.take 0)) + B ^ (0 + 1) * d = val B (q.take (0 + 1)) + val B (m.take (0 + 1)) * u := by
  rw [val_take_succ B q, val_take_succ B m]
  simp only [List.take_zero, val, Nat.mul_zero, Nat.pow_zero, Nat.zero_add, Nat.pow_one, Nat.one_mul]
  exact h
theorem down_end {B : Nat} {o q m : List Nat} {n c u : Nat} (h : B * val B (o.take n) + B ^ (n + 1) * c = val B (q.take (n + 1)) + val B (m.take (n + 1)) * u) (hn : n + 1 < o.length) {z d y : Nat} (hz : z + B * d = q.getD (n + 1) 0 + c) :
    val B (((o.set n z).set (n + 1) (y + d)).take (n + 2)) * B = val B (q.take (n + 1)) + B ^ (n + 1) * q.getD (n + 1) 0 + B ^ (n + 2) * y + val B (m.take (n + 1)) * u := by
  rw [val_set_take B (o.set n z) (by simpa using hn), val_set_take B o (by omega)]
  have e1 : B ^ (n + 2) * y = B ^ (n + 1) * (B * y) := by rw [Nat.pow_succ B (n + 1), Nat.mul_assoc]
  have e2 : (val B (o.take n) + B ^ n * z + B ^ (n + 1) * (y + d)) * B = B * val B (o.take n) + B ^ (n + 1) * z + B ^ (n + 1) * (B * y) + B ^ (n + 1) * (B * d) := by
    rw [Nat.add_mul, Nat.add_mul, Nat.mul_add, Nat.add_mul, Nat.mul_comm _ B, Nat.mul_assoc (B ^ (n + 1)) y, Nat.mul_assoc (B ^ (n + 1)) d, Nat.mul_comm y B, Nat.mul_comm d B, Nat.pow_succ B n, Nat.mul_assoc (B ^ n) z, Nat.mul_comm z B, ← Nat.mul_assoc (B ^ n) B z]
    omega
  have e3 : B ^ (n + 1) * z + B ^ (n + 1) * (B * d) = B ^ (n + 1) * q.getD (n + 1) 0 + B ^ (n + 1) * c := by rw [← Nat.mul_add, hz, Nat.mul_add]
  rw [e1, e2]
  omega
theorem mulR (b x y : Nat) (G : GH) (hf : FO G b) (hx : x < 115792089237316195423570985008687907853269984665640564039457584007913129639936) (hy : y < 115792089237316195423570985008687907853269984665640564039457584007913129639936) (hxy : x * y < 115792089237316195423570985008687907853269984665640564039457584007913129639936 * p256) : HC Try.prog 40 #[.pointer (some ⟨b, 0, none⟩), fw x, fw y] G fun v G' => v = fw (mM x y) ∧ G' = G := by
  have hp : p256 = 115792089210356248762697446949407573530086143415290314195533631308867097853951 := rfl
  have l1 := fd_len 4294967296 8 x
  have l2 := fd_len 4294967296 8 y
  have l3 := fd_len 4294967296 8 p256
  refine HC.start comp40 rfl ?_; unfold pc40
  (repeat' (first | (with_reducible refine i_ops ?_; first | (refine g_mv ?_; refine s_mv ?_) | refine o_nil ?_ | (refine g_lalloc ?_; refine s_lalloc ?_) | (refine g_lbox ?_; refine s_lboxW ?_)) | (with_reducible refine i_vc ?_; first | refine v_seq ?_ | refine v_ops ?_ | refine v_block ?_) | (with_reducible refine n_then ?_)))
  refine v_loopX (α := Nat × List Nat × Nat) (fun z => z.1 ≤ 8 ∧ z.2.1.length = 10 ∧ Dl 4294967296 z.2.1 ∧ val 4294967296 (z.2.1.take 9) * 4294967296 ^ z.1 = x * val 4294967296 ((fd 4294967296 8 y).take z.1) + z.2.2 * p256 ∧ val 4294967296 (z.2.1.take 9) < x + p256 ∧ z.2.2 < 4294967296 ^ z.1)
    (fun z => [(0, .pointer (some ⟨b, 0, none⟩)), (4, .int .u64 0), (5, .int .u64 0), (6, .int .u64 0), (7, .int .u64 0), (8, iv .i64 z.1)]) (fun z => [(4, na (fd 4294967296 8 x)), (5, na (fd 4294967296 8 y)), (6, na [0, 0, 0, 0, 0, 0, 0, 0]), (7, na z.2.1)]) (fun _ => G) (fun z => 8 - z.1) (0, List.replicate 10 0, 0)
    ⟨Nat.zero_le _, by simp, Dl.rep _ (by decide), by rw [List.take_replicate, val_rep]; simp [val], by rw [List.take_replicate, val_rep]; omega, by simp⟩ qhs qhl rfl ?_
  rintro ⟨i, row, k⟩ s ll ⟨k1, k2, k3, k4, k5, k6⟩
  dsimp only at k1 k2 k3 k4 k5 k6
  dsimp only [SL.sets, AL.sets]
  have hyi := fd_lt (B := 4294967296) (by decide) 8 y i
  have hyT := fd_dl (B := 4294967296) (by decide) 8 x
  by_cases hi8 : i < 8
  · (repeat' (first | (with_reducible refine i_ops ?_; first | (refine g_mv ?_; refine s_mv ?_) | refine o_nil ?_ | (refine g_pure ?_; refine s_pure ?_) | (refine g_lalloc ?_; refine s_lalloc ?_)) | (with_reducible refine i_vc ?_; first | refine v_seq ?_ | refine v_ops ?_ | (refine g_cond ?_; first | refine s_cond_t ?_ | refine s_cond_f ?_) | refine v_block ?_ | refine v_skip ?_ | refine v_exit ?_) | (with_reducible first | refine n_then ?_ | refine e_then ?_ | refine e_block_eq qrf ?_) | ((with_reducible refine s_cond_c ?_ ?_) <;> intro hb <;> rw [hb] <;> (try simp only [decide_eq_true_eq, decide_eq_false_iff_not, beq_iff_eq, bne_iff_ne, beq_eq_false_iff_ne, bne_eq_false_iff_eq, ne_eq, Int.not_lt, Int.not_le, gt_iff_lt, ge_iff_le, Bool.not_eq_true', Bool.not_eq_false'] at hb))))
    · refine v_loopX (α := Nat × Nat × List Nat) (fun z => z.1 ≤ 8 ∧ z.2.1 < 4294967296 ∧ z.2.2.length = 10 ∧ Dl 4294967296 z.2.2 ∧ (∀ m, z.1 ≤ m → z.2.2.getD m 0 = row.getD m 0) ∧ val 4294967296 (z.2.2.take z.1) + 4294967296 ^ z.1 * z.2.1 = val 4294967296 (row.take z.1) + val 4294967296 ((fd 4294967296 8 x).take z.1) * (fd 4294967296 8 y).getD i 0)
        (fun z => [(0, .pointer (some ⟨b, 0, none⟩)), (4, .int .u64 0), (5, .int .u64 0), (6, .int .u64 0), (7, .int .u64 0), (8, iv .i64 i), (9, iv .u64 z.2.1), (10, iv .i64 z.1)]) (fun z => [(4, na (fd 4294967296 8 x)), (5, na (fd 4294967296 8 y)), (6, na [0, 0, 0, 0, 0, 0, 0, 0]), (7, na z.2.2)]) (fun _ => G) (fun z => 8 - z.1) (0, 0, row)
        ⟨Nat.zero_le _, show (0 : Nat) < 4294967296 by decide, k2, k3, fun _ _ => rfl, by simp [val]⟩ qhs qhl rfl ?_
      rintro ⟨j, c, o⟩ s ll ⟨m1, m2, m3, m4, m5, m6⟩
      dsimp only at m1 m2 m3 m4 m5 m6
      dsimp only [SL.sets, AL.sets]
      have g1 := m4.getD (by decide) j
      have g2 := fd_lt (B := 4294967296) (by decide) 8 x j
      by_cases hj8 : j < 8
      · have hm := mul32 g2 hyi g1 m2
        (repeat' (first | (with_reducible refine i_ops ?_; first | (refine g_mv ?_; refine s_mv ?_) | refine o_nil ?_ | (refine g_pure ?_; first | refine s_nilck ?_ | refine s_fptr0 ?_ | refine s_naddc ?_ | refine s_wadd ?_ | refine s_wquoc ?_ | refine s_wremc ?_ | refine s_wmul ?_ | refine s_pure ?_) | (refine g_lload ?_; refine s_lloadV ?_) | (refine g_lstore ?_; refine s_lstoreV ?_) | (refine g_lindex ?_; refine s_lindex ?_)) | (with_reducible refine i_vc ?_; first | refine v_seq ?_ | refine v_ops ?_ | (refine g_cond ?_; first | refine s_cond_t ?_ | refine s_cond_f ?_) | refine v_block ?_ | refine v_skip ?_ | refine v_exit ?_ | refine s_drawl ?_) | (with_reducible first | refine n_then ?_ | refine e_then ?_ | refine n_block ?_ | refine e_block_eq qrf ?_) | ((with_reducible refine s_cond_c ?_ ?_) <;> intro hb <;> rw [hb] <;> (try simp only [decide_eq_true_eq, decide_eq_false_iff_not, beq_iff_eq, bne_iff_ne, beq_eq_false_iff_ne, bne_eq_false_iff_eq, ne_eq, Int.not_lt, Int.not_le, gt_iff_lt, ge_iff_le, Bool.not_eq_true', Bool.not_eq_false'] at hb))))
        · have e : (((o.getD j 0 + (fd 4294967296 8 x).getD j 0 * (fd 4294967296 8 y).getD i 0 % 18446744073709551616) % 18446744073709551616 + c) % 18446744073709551616) = o.getD j 0 + (fd 4294967296 8 x).getD j 0 * (fd 4294967296 8 y).getD i 0 + c := by
            generalize (fd 4294967296 8 x).getD j 0 * (fd 4294967296 8 y).getD i 0 = p at *
            omega
          simp only [e]
          refine ⟨8 - (j + 1), by omega, (j + 1, _, o.set j _), rfl, ⟨by dsimp only; omega, by dsimp only; omega, by simpa using m3, m4.set j (Nat.mod_lt _ (by decide)), fun z hz => ?_, plus_step m6 (by omega) (m5 j (Nat.le_refl _)).symm rfl (Nat.mod_add_div _ _)⟩, qhs, qhl, rfl⟩
          dsimp only at hz ⊢
          rw [set_getD_ne o (by omega)]; exact m5 z (by omega)
        · omega
      · have hj : j = 8 := by omega
        subst hj
        have g8 := m4.getD (by decide) 8
        have P0 := hf.low
        (repeat' (first | (with_reducible refine i_ops ?_; first | (refine g_mv ?_; refine s_mv ?_) | refine o_nil ?_ | (refine g_pure ?_; first | refine s_nilck ?_ | refine s_fptr0 ?_ | refine s_wadd ?_ | refine s_wquoc ?_ | refine s_wremc ?_ | refine s_wmul ?_ | refine s_pure ?_) | (refine g_lload ?_; refine s_lloadV ?_) | (refine g_lstore ?_; refine s_lstoreV ?_) | (refine g_lindex ?_; refine s_lindex ?_) | (refine g_hload ?_; refine s_hloadP ?_)) | (with_reducible refine i_vc ?_; first | refine v_seq ?_ | refine v_ops ?_ | (refine g_cond ?_; refine s_cond_f ?_) | refine v_block ?_ | refine v_exit ?_ | refine s_drawl ?_) | (with_reducible first | refine n_then ?_ | refine e_then ?_ | refine e_block_eq qrf ?_)))
        have hd8 : (o.getD 8 0 + c) % 18446744073709551616 = o.getD 8 0 + c := by omega
        rw [hd8]
        have hq1 : (((o.set 8 ((o.getD 8 0 + c) % 4294967296)).set 9 ((o.getD 8 0 + c) / 4294967296))).length = 10 := by simpa using m3
        have hq2 : Dl 4294967296 ((o.set 8 ((o.getD 8 0 + c) % 4294967296)).set 9 ((o.getD 8 0 + c) / 4294967296)) := (m4.set 8 (Nat.mod_lt _ (by decide))).set 9 (by omega)
        have hq3 : val 4294967296 (((o.set 8 ((o.getD 8 0 + c) % 4294967296)).set 9 ((o.getD 8 0 + c) / 4294967296)).take 10) = val 4294967296 (row.take 9) + x * (fd 4294967296 8 y).getD i 0 := by
          rw [val_set_take _ _ (by simp; omega), val_set_take _ _ (by omega), val_take_succ _ row 8, ← m5 8 (by omega)]
          rw [fd8, val_fd8 hx] at m6
          have e1 : (4294967296 : Nat) ^ 9 = 4294967296 ^ 8 * 4294967296 := by decide
          have e2 : (4294967296 : Nat) ^ 8 * ((o.getD 8 0 + c) % 4294967296) + 4294967296 ^ 8 * 4294967296 * ((o.getD 8 0 + c) / 4294967296) = 4294967296 ^ 8 * o.getD 8 0 + 4294967296 ^ 8 * c := by
            rw [Nat.mul_assoc, ← Nat.mul_add, Nat.mod_add_div, Nat.mul_add]
          rw [e1]
          omega
        generalize (o.set 8 ((o.getD 8 0 + c) % 4294967296)).set 9 ((o.getD 8 0 + c) / 4294967296) = q at *
        have hu0 := hq2.getD (by decide) 0
        have hu : q.getD 0 0 * 1 % 18446744073709551616 % 4294967296 = q.getD 0 0 := by omega
        rw [hu]
        refine v_loopX (α := Nat × Nat × List Nat) (fun z => z.1 ≤ 8 ∧ z.2.1 < 4294967296 ∧ z.2.2.length = 10 ∧ Dl 4294967296 z.2.2 ∧ (∀ m, z.1 ≤ m → z.2.2.getD m 0 = q.getD m 0) ∧ ((z.1 = 0 ∧ z.2.1 = 0) ∨ ∃ j', z.1 = j' + 1 ∧ 4294967296 * val 4294967296 (z.2.2.take j') + 4294967296 ^ (j' + 1) * z.2.1 = val 4294967296 (q.take (j' + 1)) + val 4294967296 ((fd 4294967296 8 p256).take (j' + 1)) * q.getD 0 0))
          (fun z => [(0, .pointer (some ⟨b, 0, none⟩)), (4, .int .u64 0), (5, .int .u64 0), (6, .int .u64 0), (7, .int .u64 0), (8, iv .i64 i), (9, iv .u64 z.2.1), (13, iv .u64 (q.getD 0 0)), (14, iv .i64 z.1)]) (fun z => [(4, na (fd 4294967296 8 x)), (5, na (fd 4294967296 8 y)), (6, na [0, 0, 0, 0, 0, 0, 0, 0]), (7, na z.2.2)]) (fun _ => G) (fun z => 8 - z.1) (0, 0, q)
          ⟨Nat.zero_le _, show (0 : Nat) < 4294967296 by decide, hq1, hq2, fun _ _ => rfl, .inl ⟨rfl, rfl⟩⟩ qhs qhl rfl ?_
        rintro ⟨j, d, z⟩ s ll ⟨r1, r2, r3, r4, r5, r6⟩
        dsimp only at r1 r2 r3 r4 r5 r6
        dsimp only [SL.sets, AL.sets]
        have s1 := r4.getD (by decide) j
        have s2 := fd_lt (B := 4294967296) (by decide) 8 p256 j
        by_cases hj8 : j < 8
        · have hm := mul32 s2 hu0 s1 r2
          have P := hf.m hj8
          have e : (((z.getD j 0 + (fd 4294967296 8 p256).getD j 0 * q.getD 0 0 % 18446744073709551616) % 18446744073709551616 + d) % 18446744073709551616) = z.getD j 0 + (fd 4294967296 8 p256).getD j 0 * q.getD 0 0 + d := by
            generalize (fd 4294967296 8 p256).getD j 0 * q.getD 0 0 = p at *
            omega
          (repeat' (first | (with_reducible refine i_ops ?_; first | (refine g_mv ?_; refine s_mv ?_) | refine o_nil ?_ | (refine g_pure ?_; first | refine s_iptrA ?_ | refine s_nilck ?_ | refine s_fptr0 ?_ | refine s_naddc ?_ | refine s_nsubc ?_ | refine s_wadd ?_ | refine s_wquoc ?_ | refine s_wremc ?_ | refine s_wmul ?_ | refine s_pure ?_) | (refine g_lload ?_; refine s_lloadV ?_) | (refine g_lstore ?_; refine s_lstoreV ?_) | (refine g_lindex ?_; refine s_lindex ?_) | (refine g_hload ?_; refine s_hloadP ?_)) | (with_reducible refine i_vc ?_; first | refine v_seq ?_ | refine v_ops ?_ | (refine g_cond ?_; first | refine s_cond_t ?_ | refine s_cond_f ?_) | refine v_block ?_ | refine v_skip ?_ | refine v_exit ?_ | refine s_drawl ?_) | (with_reducible first | refine n_then ?_ | refine e_then ?_ | refine n_block ?_ | refine e_block_eq qrf ?_) | ((with_reducible refine s_cond_c ?_ ?_) <;> intro hb <;> rw [hb] <;> (try simp only [decide_eq_true_eq, decide_eq_false_iff_not, beq_iff_eq, bne_iff_ne, beq_eq_false_iff_ne, bne_eq_false_iff_eq, ne_eq, Int.not_lt, Int.not_le, gt_iff_lt, ge_iff_le, Bool.not_eq_true', Bool.not_eq_false'] at hb))))
          · simp only [e]
            obtain ⟨j', rfl, r7⟩ : ∃ j', j = j' + 1 ∧ 4294967296 * val 4294967296 (z.take j') + 4294967296 ^ (j' + 1) * d = val 4294967296 (q.take (j' + 1)) + val 4294967296 ((fd 4294967296 8 p256).take (j' + 1)) * q.getD 0 0 := by
              rcases r6 with ⟨h, _⟩ | h
              · omega
              · exact h
            have e7 := r5 (j' + 1) (Nat.le_refl _)
            have hst := down_step (z := (z.getD (j' + 1) 0 + (fd 4294967296 8 p256).getD (j' + 1) 0 * q.getD 0 0 + d) % 4294967296) (d := (z.getD (j' + 1) 0 + (fd 4294967296 8 p256).getD (j' + 1) 0 * q.getD 0 0 + d) / 4294967296) r7 (by omega) (by rw [Nat.mod_add_div, e7])
            refine ⟨8 - (j' + 1 + 1), by omega, (j' + 1 + 1, (z.getD (j' + 1) 0 + (fd 4294967296 8 p256).getD (j' + 1) 0 * q.getD 0 0 + d) / 4294967296, z.set j' ((z.getD (j' + 1) 0 + (fd 4294967296 8 p256).getD (j' + 1) 0 * q.getD 0 0 + d) % 4294967296)), rfl, ⟨by dsimp only; omega, by dsimp only; omega, by simpa using r3, r4.set _ (Nat.mod_lt _ (by decide)), fun m hm' => ?_, .inr ⟨j' + 1, rfl, hst⟩⟩, qhs, qhl, rfl⟩
            dsimp only at hm' ⊢
            rw [set_getD_ne z (by omega)]; exact r5 m (by omega)
          · simp only [e]
            have hj0 : j = 0 := by omega
            subst hj0
            have hd0 : d = 0 := by
              rcases r6 with ⟨_, h⟩ | ⟨j', h, _⟩
              · exact h
              · omega
            subst hd0
            have e7 := r5 0 (Nat.le_refl _)
            have eM : (fd 4294967296 8 p256).getD 0 0 = 4294967295 := by decide
            have hst := down_zero (B := 4294967296) (q := q) (m := fd 4294967296 8 p256) (u := q.getD 0 0) (d := (z.getD 0 0 + (fd 4294967296 8 p256).getD 0 0 * q.getD 0 0 + 0) / 4294967296) (by rw [eM, e7]; omega)
            have et : z.take 0 = q.take 0 := rfl
            rw [← et] at hst
            refine ⟨8 - (0 + 1), by omega, (0 + 1, (z.getD 0 0 + (fd 4294967296 8 p256).getD 0 0 * q.getD 0 0 + 0) / 4294967296, z), rfl, ⟨by dsimp only; omega, by dsimp only; omega, r3, r4, fun m hm' => r5 m (by dsimp only at hm'; omega), .inr ⟨0, rfl, hst⟩⟩, qhs, qhl, rfl⟩
          · omega
        · have hj : j = 8 := by omega
          subst hj
          have s8 := r4.getD (by decide) 8
          have s9 := r4.getD (by decide) 9
          have e8 := r5 8 (by omega)
          have e9 := r5 9 (by omega)
          obtain ⟨j', hj', r7⟩ : ∃ j', 8 = j' + 1 ∧ 4294967296 * val 4294967296 (z.take j') + 4294967296 ^ (j' + 1) * d = val 4294967296 (q.take (j' + 1)) + val 4294967296 ((fd 4294967296 8 p256).take (j' + 1)) * q.getD 0 0 := by
            rcases r6 with ⟨h, _⟩ | h
            · omega
            · exact h
          have hj7 : j' = 7 := by omega
          subst hj7
          have hz8 : (z.getD 8 0 + d) % 18446744073709551616 = z.getD 8 0 + d := by omega
          have hz9 : (z.getD 9 0 + (z.getD 8 0 + d) / 4294967296) % 18446744073709551616 = z.getD 9 0 + (z.getD 8 0 + d) / 4294967296 := by omega
          (repeat' (first | (with_reducible refine i_ops ?_; first | (refine g_mv ?_; refine s_mv ?_) | refine o_nil ?_ | (refine g_pure ?_; first | refine s_naddc ?_ | refine s_wadd ?_ | refine s_wquoc ?_ | refine s_wremc ?_ | refine s_pure ?_) | (refine g_lload ?_; refine s_lloadV ?_) | (refine g_lstore ?_; refine s_lstoreV ?_) | (refine g_lindex ?_; refine s_lindex ?_)) | (with_reducible refine i_vc ?_; first | refine v_seq ?_ | refine v_ops ?_ | (refine g_cond ?_; refine s_cond_f ?_) | refine v_exit ?_) | (with_reducible first | refine n_then ?_ | refine e_then ?_ | refine n_block ?_ | refine e_block_eq qrf ?_)))
          simp only [hz8, set_getD_ne z (show 7 ≠ 9 by decide), hz9]
          have hend := down_end (y := z.getD 9 0) (z := (z.getD 8 0 + d) % 4294967296) (d := (z.getD 8 0 + d) / 4294967296) r7 (by omega) (by rw [Nat.mod_add_div, e8])
          rw [fd8, val_fd8 p_lt, e9] at hend
          rw [val_take_succ _ q 9, val_take_succ _ q 8] at hq3
          have hv4 : val 4294967296 (((z.set 7 ((z.getD 8 0 + d) % 4294967296)).set 8 (z.getD 9 0 + (z.getD 8 0 + d) / 4294967296)).take 9) * 4294967296 = val 4294967296 (row.take 9) + x * (fd 4294967296 8 y).getD i 0 + q.getD 0 0 * p256 := by
            rw [← hq3, Nat.mul_comm (q.getD 0 0), e9]; exact hend
          have hlt := mont_lt (B := 4294967296) (by decide) k5 hyi hu0 hv4
          have h89 := val_take_succ 4294967296 ((z.set 7 ((z.getD 8 0 + d) % 4294967296)).set 8 (z.getD 9 0 + (z.getD 8 0 + d) / 4294967296)) 8
          rw [set_getD_eq _ (by simp; omega), b328] at h89
          refine ⟨8 - (i + 1), by omega, (i + 1, (z.set 7 ((z.getD 8 0 + d) % 4294967296)).set 8 (z.getD 9 0 + (z.getD 8 0 + d) / 4294967296), k + q.getD 0 0 * 4294967296 ^ i), rfl, ⟨by dsimp only; omega, by simpa using r3, (r4.set 7 (Nat.mod_lt _ (by decide))).set 8 (by omega), ?_, hlt, kNext k6 hu0⟩, qhs, qhl, rfl⟩
          dsimp only
          rw [val_take_succ _ (fd 4294967296 8 y)]
          exact mont_inv k4 hv4
    · omega
  · have hi : i = 8 := by omega
    subst hi
    have d8 := k3.getD (by decide) 8
    (repeat' (first | (with_reducible refine i_ops ?_; first | (refine g_mv ?_; refine s_mv ?_) | refine o_nil ?_ | (refine g_pure ?_; refine s_pure ?_) | (refine g_lalloc ?_; refine s_lalloc ?_)) | (with_reducible refine i_vc ?_; first | refine v_seq ?_ | refine v_ops ?_ | (refine g_cond ?_; refine s_cond_f ?_) | refine v_block ?_ | refine v_exit ?_) | (with_reducible first | refine n_then ?_ | refine e_then ?_ | refine e_block_eq qrf ?_)))
    refine v_loopX (α := Nat × List Nat) (fun z => z.1 ≤ 8 ∧ z.2.length = 8 ∧ (∀ m, m < z.1 → z.2.getD m 0 = row.getD m 0))
      (fun z => [(0, .pointer (some ⟨b, 0, none⟩)), (6, .int .u64 0), (7, .int .u64 0), (15, .int .u64 0), (16, iv .i64 z.1)]) (fun z => [(6, na [0, 0, 0, 0, 0, 0, 0, 0]), (7, na row), (15, na z.2)]) (fun _ => G) (fun z => 8 - z.1) (0, [0, 0, 0, 0, 0, 0, 0, 0])
      ⟨Nat.zero_le _, rfl, fun m hm => absurd hm (by omega)⟩ qhs qhl rfl ?_
    rintro ⟨j, o⟩ s ll ⟨m1, m2, m3⟩
    dsimp only at m1 m2 m3
    dsimp only [SL.sets, AL.sets]
    by_cases hj8 : j < 8
    · (repeat' (first | (with_reducible refine i_ops ?_; first | (refine g_mv ?_; refine s_mv ?_) | refine o_nil ?_ | (refine g_some ?_; first | refine s_g_t ?_ | refine s_g_f' ?_) | (refine g_pick ?_; refine s_pick_t ?_) | (refine g_pure ?_; first | refine s_nilck ?_ | refine s_fptr0 ?_ | refine s_naddc ?_ | refine s_pure ?_) | (refine g_lload ?_; first | refine s_lloadV ?_ | refine s_lloadW ?_) | (refine g_lstore ?_; refine s_lstoreV ?_) | (refine g_lindex ?_; refine s_lindex ?_)) | (with_reducible refine i_vc ?_; first | refine v_seq ?_ | refine v_ops ?_ | (refine g_cond ?_; first | refine s_cond_t ?_ | refine s_cond_f ?_) | refine v_block ?_ | refine v_skip ?_ | refine v_exit ?_ | refine v_draw0 ?_) | (with_reducible refine i_plan ?_; first | refine p_done ?_ | refine s_pre ?_ | refine s_ag_f ?_) | (with_reducible first | refine n_then ?_ | refine e_then ?_ | refine n_block ?_ | refine e_block_eq qrf ?_) | ((with_reducible first | refine s_g_c ?_ ?_ | refine s_cond_c ?_ ?_) <;> intro hb <;> rw [hb] <;> (try simp only [decide_eq_true_eq, decide_eq_false_iff_not, beq_iff_eq, bne_iff_ne, beq_eq_false_iff_ne, bne_eq_false_iff_eq, ne_eq, Int.not_lt, Int.not_le, gt_iff_lt, ge_iff_le, Bool.not_eq_true', Bool.not_eq_false'] at hb))))
      · refine ⟨8 - (j + 1), by omega, (j + 1, o.set j (row.getD j 0)), rfl, ⟨by dsimp only; omega, by simpa using m2, fun m hm => ?_⟩, qhs, qhl, rfl⟩
        dsimp only at hm ⊢
        by_cases e : m = j
        · subst e; rw [set_getD_eq o (by omega)]
        · rw [set_getD_ne o (by omega)]; exact m3 m (by omega)
      all_goals omega
    · have hj : j = 8 := by omega
      subst hj
      have eo : o = fd 4294967296 8 (val 4294967296 (row.take 8)) := by
        rw [← fd_of (k3.take 8) (by rw [List.length_take]; omega) rfl]
        exact ext_getD (by rw [List.length_take]; omega) fun m hm => by rw [m3 m (by omega), getD_take row (by omega)]
      have hn : val 4294967296 (row.take 8) < 115792089237316195423570985008687907853269984665640564039457584007913129639936 := by
        have := val_lt (k3.take 8)
        rw [List.length_take, show min 8 row.length = 8 by omega, b328] at this; exact this
      subst eo
      rw [fd8, val_fd8 hy, b328] at k4
      rw [b328] at k6
      have hR := val_take_succ 4294967296 row 8
      rw [b328] at hR
      rw [show 8 + 1 = 9 from rfl] at hR
      generalize val 4294967296 (row.take 8) = n at *
      have hlt : val 4294967296 (row.take 9) < 2 * p256 := by
        have h1 : k * p256 ≤ 115792089237316195423570985008687907853269984665640564039457584007913129639935 * p256 := Nat.mul_le_mul_right _ (by omega)
        generalize x * y = p at *
        omega
      have hm := mM_of (t := val 4294967296 (row.take 9) % p256) (a := x) (b := y) (Nat.mod_lt _ p_pos) (by
        rw [Nat.mul_mod, Nat.mod_mod, ← Nat.mul_mod, k4, Nat.add_mul_mod_self_right])
      have hmod : mM x y = if val 4294967296 (row.take 9) < p256 then val 4294967296 (row.take 9) else val 4294967296 (row.take 9) - p256 := by
        rw [← hm]
        split
        · exact Nat.mod_eq_of_lt (by assumption)
        · rw [Nat.mod_eq_sub_mod (by omega), Nat.mod_eq_of_lt (by omega)]
      have PW := hf.mw
      have ln := fd_len 4294967296 8 n
      have ln2 := fd_len 4294967296 8 ((n + (115792089237316195423570985008687907853269984665640564039457584007913129639936 - p256)) % 115792089237316195423570985008687907853269984665640564039457584007913129639936)
      (repeat' (first | (with_reducible refine i_ops ?_; first | (refine g_mv ?_; refine s_mv ?_) | refine o_nil ?_ | (refine g_some ?_; first | refine s_g_t ?_ | refine s_g_f' ?_) | (refine g_pick ?_; first | refine s_pick_t ?_ | refine s_pick_f ?_) | (refine g_pure ?_; first | refine s_nilck ?_ | refine s_fptr0 ?_ | refine s_pure ?_) | (refine g_lload ?_; first | refine s_lloadV ?_ | refine s_lloadW ?_) | (refine g_lstore ?_; refine s_lstoreW ?_) | (refine g_lindex ?_; refine s_lindex ?_) | (refine g_hload ?_; refine s_hloadP ?_)) | (with_reducible refine i_vc ?_; first | refine v_seq ?_ | refine v_ops ?_ | (refine g_cond ?_; first | refine s_cond_t ?_ | refine s_cond_f ?_) | refine v_skip ?_ | refine v_exit ?_ | refine v_ret ?_ | refine v_draw0 ?_) | (with_reducible refine i_plan ?_; first | refine p_done ?_ | refine s_pre ?_ | refine s_ag_t ?_ | refine s_ag_f ?_ | refine p_callp qrf (by first | exact lessR n p256 G hn p_lt | exact minusR n p256 G hn p_lt) qle ?_ p_no | refine s_alt ?_) | (with_reducible first | refine n_then ?_ | refine e_then ?_ | refine e_block_eq qrf ?_ | (refine g_stand ?_; first | refine s_stand ?_ | refine s_standL ?_)) | ((with_reducible first | refine s_g_c ?_ ?_ | refine s_cond_c ?_ ?_) <;> intro hb <;> rw [hb] <;> (try simp only [decide_eq_true_eq, decide_eq_false_iff_not, beq_iff_eq, bne_iff_ne, beq_eq_false_iff_ne, bne_eq_false_iff_eq, ne_eq, Int.not_lt, Int.not_le, gt_iff_lt, ge_iff_le, Bool.not_eq_true', Bool.not_eq_false'] at hb)) | ((with_reducible refine s_ret ?_); try simp only [x_tup0, x_tup1, x_tup2, x_tup3, x_tup4, x_tup5, and_true, true_and])))
      all_goals rw [na_ext (fd_len _ _ _)]
      · have e : (n + (115792089237316195423570985008687907853269984665640564039457584007913129639936 - p256)) % 115792089237316195423570985008687907853269984665640564039457584007913129639936 = mM x y := by rw [hmod]; split <;> omega
        rw [e]
      · have e : (n + (115792089237316195423570985008687907853269984665640564039457584007913129639936 - p256)) % 115792089237316195423570985008687907853269984665640564039457584007913129639936 = mM x y := by rw [hmod]; split <;> omega
        rw [e]
      · have e : n = mM x y := by rw [hmod]; split <;> omega
        rw [← e]
end Go.Proofs.Ytdeihgcgglhhcaa.V
end
section
/- The document's reckoning, by the field's numbers. -/
set_option linter.unusedSimpArgs false
set_option linter.unusedVariables false
set_option maxRecDepth 20000
-- @nums
-- @extra s_nilck s_fptr0 s_naddc s_nadd s_nsubL s_nsubc s_nquoc s_nremc s_wshr s_wremc
-- @pre g_lload s_lloadM s_lloadV s_lloadVc s_lloadW
-- @pre g_lstore s_lstoreM s_lstoreV s_lstoreVc s_lstoreW
-- @pre g_lbox s_lboxM s_lboxW
namespace Go.Proofs.Ytdeihgcgglhhcaa.V
open Go.RowKit Go.ChangeShapes Go.WideShapes
def fm (x : Fp) : Value := fw (mo x)
section
variable {P : Program} {E : Env} {K : St → Prop} {r : List Stp} {dd : Option Nat} {L : SL} {A : AL} {G : GH}
theorem s_lloadM {d k s0 : Nat} {x : Fp} {cs : Array Value} (h : vops P E r K (S (.set d (fm x) L) A G)) (hp : L.get s0 = some (.int .u64 0) := by with_unfolding_all rfl) (hc : A.get k = some cs ∧ cs = (fm x).cells := by (refine ⟨by with_unfolding_all rfl, ?_⟩; with_reducible rfl)) : vops P E (⟨none, dd, .lload d k s0 8 true⟩ :: r) K (S L A G) :=
  o_lload hp hc.1 (by rw [hc.2]; exact x_takeA (cs := (fm x).cells) rfl) h
theorem s_lboxM {d k : Nat} {o : Operand} {x : Fp} {v : Value} {ts : List Nat} (h : vops P E r K (S (.set d (.int .u64 0) (.kill ts L)) (.set k (fm x).cells A) G)) (hx : evo L o = some v ∧ v = fm x := by (refine ⟨by with_unfolding_all rfl, ?_⟩; with_reducible rfl)) (ho : onceE E.env = true := by with_unfolding_all rfl) (hk : slotsOf E.env k = some ts := by with_unfolding_all rfl) : vops P E (⟨none, dd, .lbox d k o⟩ :: r) K (S L A G) := o_lbox ho hk hx.1 (by rw [hx.2]) h
theorem s_lstoreM {k s0 : Nat} {o : Operand} {x : Fp} {v : Value} {cs : Array Value} (h : vops P E r K (S L (.set k (fm x).cells A) G)) (hp : L.get s0 = some (.int .u64 0) := by with_unfolding_all rfl) (hx : evo L o = some v ∧ v = fm x := by (refine ⟨by with_unfolding_all rfl, ?_⟩; with_reducible rfl)) (hc : A.get k = some cs ∧ cs.size = 8 := by (refine ⟨by with_unfolding_all rfl, by with_unfolding_all rfl⟩)) : vops P E (⟨none, dd, .lstore k s0 8 o⟩ :: r) K (S L A G) := by
  refine o_lstoreA (vs := (fd 4294967296 8 (mo x)).map (iv .u64)) (y := fm x) hp hc.1 (by rw [hx.1, hx.2]) rfl (by simp [fd_len]) hc.2.symm (nu_cells _ _) h
end
abbrev pf (b : Nat) : Value := .pointer (some ⟨b, 0, none⟩)
theorem mulSqM (b n : Nat) (hn : n < 115792089237316195423570985008687907853269984665640564039457584007913129639936) (G : GH) (hf : FO G b) : HC Try.prog 40 #[pf b, fw n, fw sq256] G fun v G' => v = fm (of n) ∧ G' = G := by
  have := mulR b n sq256 G hf hn (by decide) (Nat.mul_lt_mul_of_lt_of_le hn (by decide) p_pos)
  rwa [mo_sq] at this
end Go.Proofs.Ytdeihgcgglhhcaa.V
end
