/- The field's numbers, as they stand times 2 to the power 256. -/
import Derived.Test.YtdeihgcgglhhcaaPeKD
set_option linter.unusedSimpArgs false
set_option linter.unusedVariables false
-- @nums
-- @extra s_naddc s_nadd
-- @pre g_lload s_lloadF s_lloadV s_lloadW
-- @pre g_lstore s_lstoreF s_lstoreV s_lstoreW
-- @pre g_lbox s_lboxF s_lboxW
namespace Go.Proofs.Ytdeihgcgglhhcaa.V
open Go.RowKit Go.ChangeShapes Go.WideShapes
instance : NeZero p256 := ⟨by decide⟩
abbrev Fp := Fin p256
def of (n : Nat) : Fp := Fin.ofNat p256 n
theorem of_val (n : Nat) : (of n).val = n % p256 := rfl
theorem p_pos : 0 < p256 := by decide
/-- A number of the field times 2 to the power 256. -/
def mo (x : Fp) : Nat := x.val * 115792089237316195423570985008687907853269984665640564039457584007913129639936 % p256
theorem mo_lt (x : Fp) : mo x < p256 := Nat.mod_lt _ p_pos
theorem p_lt : p256 < 115792089237316195423570985008687907853269984665640564039457584007913129639936 := by decide
theorem mo_ltT (x : Fp) : mo x < 115792089237316195423570985008687907853269984665640564039457584007913129639936 := Nat.lt_trans (mo_lt x) p_lt
theorem mo_out (x : Fp) : mo x * ri256 % p256 = x.val := by
  unfold mo
  rw [Nat.mul_mod, Nat.mod_mod, ← Nat.mul_mod, Nat.mul_assoc, Nat.mul_mod, ri_one, Nat.mul_one, Nat.mod_mod, Nat.mod_eq_of_lt x.isLt]
theorem mo_inj {x y : Fp} (h : mo x = mo y) : x = y := by
  have h1 := mo_out x
  rw [h, mo_out] at h1
  exact Fin.ext h1.symm
theorem mo_add (x y : Fp) : (mo x + mo y) % p256 = mo (x + y) := by
  unfold mo
  rw [Fin.val_add, ← Nat.add_mod, ← Nat.add_mul, Nat.mul_mod ((x.val + y.val) % p256), Nat.mod_mod, ← Nat.mul_mod]
theorem sub_mod {a b M : Nat} (ha : a < M) (hb : b < M) : ((a + b) % M + (M - b)) % M = a := by
  by_cases h : a + b < M
  · rw [Nat.mod_eq_of_lt h, show a + b + (M - b) = a + M by omega, Nat.add_mod_right, Nat.mod_eq_of_lt ha]
  · have e : (a + b) % M = a + b - M := by rw [Nat.mod_eq_sub_mod (by omega), Nat.mod_eq_of_lt (by omega)]
    rw [e, show a + b - M + (M - b) = a by omega, Nat.mod_eq_of_lt ha]
theorem mo_sub (x y : Fp) : (mo x + (p256 - mo y)) % p256 = mo (x - y) := by
  have e : x - y + y = x := by grind
  have h := mo_add (x - y) y
  rw [e] at h
  rw [← h, sub_mod (mo_lt _) (mo_lt _)]
theorem mo_mul (x y : Fp) : mM (mo x) (mo y) = mo (x * y) := by
  unfold mM mo
  have e : (x * y).val * 115792089237316195423570985008687907853269984665640564039457584007913129639936 % p256 = x.val * 115792089237316195423570985008687907853269984665640564039457584007913129639936 * (y.val * 115792089237316195423570985008687907853269984665640564039457584007913129639936) * ri256 % p256 := by
    rw [Fin.val_mul, Nat.mul_mod (x.val * y.val % p256), Nat.mod_mod, ← Nat.mul_mod]
    have : x.val * 115792089237316195423570985008687907853269984665640564039457584007913129639936 * (y.val * 115792089237316195423570985008687907853269984665640564039457584007913129639936) * ri256 = x.val * y.val * 115792089237316195423570985008687907853269984665640564039457584007913129639936 * (115792089237316195423570985008687907853269984665640564039457584007913129639936 * ri256) := by
      simp only [Nat.mul_assoc, Nat.mul_left_comm, Nat.mul_comm]
    rw [this, Nat.mul_mod (x.val * y.val * 115792089237316195423570985008687907853269984665640564039457584007913129639936), ri_one, Nat.mul_one, Nat.mod_mod]
  rw [e, Nat.mul_mod, Nat.mul_mod (x.val * 115792089237316195423570985008687907853269984665640564039457584007913129639936 % p256), Nat.mod_mod, Nat.mod_mod, ← Nat.mul_mod (x.val * 115792089237316195423570985008687907853269984665640564039457584007913129639936), ← Nat.mul_mod]
theorem mo_sq (n : Nat) : mM n sq256 = mo (of n) := by
  unfold mM mo
  rw [of_val, Nat.mul_mod (n % p256), Nat.mod_mod, ← Nat.mul_mod, Nat.mul_assoc, Nat.mul_mod, show sq256 * ri256 % p256 = 115792089237316195423570985008687907853269984665640564039457584007913129639936 % p256 by decide, ← Nat.mul_mod]
theorem mo_one (x : Fp) : mM (mo x) 1 = x.val := by
  unfold mM
  rw [Nat.mul_one]; exact mo_out x
/-- A number of the field as the program has it. -/
def fv (x : Fp) : Value := nv (mo x)
section
variable {P : Program} {E : Env} {K : St → Prop} {r : List Stp} {dd : Option Nat} {L : SL} {A : AL} {G : GH}
theorem s_lloadF {d k s0 : Nat} {x : Fp} {cs : Array Value} (h : vops P E r K (S (.set d (fv x) L) A G)) (hp : L.get s0 = some (.int .u64 0) := by with_unfolding_all rfl) (hc : A.get k = some cs ∧ cs = (fv x).cells := by (refine ⟨by with_unfolding_all rfl, ?_⟩; with_reducible rfl)) : vops P E (⟨none, dd, .lload d k s0 4 true⟩ :: r) K (S L A G) :=
  o_lload hp hc.1 (by rw [hc.2]; exact x_takeA (cs := (fv x).cells) rfl) h
theorem s_lboxF {d k : Nat} {o : Operand} {x : Fp} {v : Value} {ts : List Nat} (h : vops P E r K (S (.set d (.int .u64 0) (.kill ts L)) (.set k (fv x).cells A) G)) (hx : evo L o = some v ∧ v = fv x := by (refine ⟨by with_unfolding_all rfl, ?_⟩; with_reducible rfl)) (ho : onceE E.env = true := by with_unfolding_all rfl) (hk : slotsOf E.env k = some ts := by with_unfolding_all rfl) : vops P E (⟨none, dd, .lbox d k o⟩ :: r) K (S L A G) := o_lbox ho hk hx.1 (by rw [hx.2]) h
theorem s_lstoreF {k s0 : Nat} {o : Operand} {x : Fp} {v : Value} {cs : Array Value} (h : vops P E r K (S L (.set k (fv x).cells A) G)) (hp : L.get s0 = some (.int .u64 0) := by with_unfolding_all rfl) (hx : evo L o = some v ∧ v = fv x := by (refine ⟨by with_unfolding_all rfl, ?_⟩; with_reducible rfl)) (hc : A.get k = some cs ∧ cs.size = 4 := by (refine ⟨by with_unfolding_all rfl, by with_unfolding_all rfl⟩)) : vops P E (⟨none, dd, .lstore k s0 4 o⟩ :: r) K (S L A G) := by
  refine o_lstoreA (vs := (fd 18446744073709551616 4 (mo x)).map (iv .u64)) (y := fv x) hp hc.1 (by rw [hx.1, hx.2]) rfl (by simp [fd_len]) hc.2.symm (nu_cells _ _) h
end
theorem plusF (x y : Fp) (G : GH) : HC Try.prog 55 #[fv x, fv y] G fun v G' => v = fv (x + y) ∧ G' = G := by
  have := plusK (mo x) (mo y) G (mo_lt x) (mo_lt y)
  rwa [mo_add] at this
theorem minusF (x y : Fp) (G : GH) : HC Try.prog 48 #[fv x, fv y] G fun v G' => v = fv (x - y) ∧ G' = G := by
  have := minusK (mo x) (mo y) G (mo_lt x) (mo_lt y)
  rwa [mo_sub] at this
theorem timesF (x y : Fp) (G : GH) : HC Try.prog 51 #[fv x, fv y] G fun v G' => v = fv (x * y) ∧ G.le G' := by
  have := timesK (mo x) (mo y) G (mo_ltT x) (mo_ltT y) (Nat.mul_lt_mul_of_lt_of_le (mo_ltT x) (Nat.le_of_lt (mo_lt y)) p_pos)
  rwa [mo_mul] at this
theorem timesSq (n : Nat) (hn : n < 115792089237316195423570985008687907853269984665640564039457584007913129639936) (G : GH) : HC Try.prog 51 #[nv n, nv sq256] G fun v G' => v = fv (of n) ∧ G.le G' := by
  have := timesK n sq256 G hn (by decide) (Nat.mul_lt_mul_of_lt_of_le hn (by decide) p_pos)
  rwa [mo_sq] at this
theorem timesOne (x : Fp) (G : GH) : HC Try.prog 51 #[fv x, nv 1] G fun v G' => v = nv x.val ∧ G.le G' := by
  have := timesK (mo x) 1 G (mo_ltT x) (by decide) (by have := mo_ltT x; have : 1 ≤ p256 := p_pos; exact Nat.mul_lt_mul_of_lt_of_le (mo_ltT x) this p_pos)
  rwa [mo_one] at this
theorem fv_ext (x : Fp) : Value.agg ((fv x).cells.extract 0 4) = fv x := by
  have := na_ext (n := 4) (fd_len 18446744073709551616 4 (mo x))
  show Value.agg ((na (fd 18446744073709551616 4 (mo x))).extract 0 4) = nv (mo x)
  rw [this]
theorem threeF (x : Fp) (G : GH) : HC Try.prog 54 #[fv x] G fun v G' => v = fv (x + x + x) ∧ G' = G := by
  refine HC.start comp54 rfl ?_; unfold pc54
  (repeat' (first | (with_reducible refine i_ops ?_; first | (refine g_mv ?_; refine s_mv ?_) | refine o_nil ?_ | (refine g_build ?_; first | refine s_build ?_ | refine s_buildP ?_) | (refine g_pure ?_; first | refine s_naddc ?_ | refine s_nadd ?_ | refine s_pure ?_ | refine s_saddB ?_) | (refine g_lload ?_; first | refine s_lloadF ?_ | refine s_lloadV ?_ | refine s_lloadW ?_ | refine s_lload ?_) | (refine g_lstore ?_; first | refine s_lstoreF ?_ | refine s_lstoreV ?_ | refine s_lstoreW ?_ | refine s_lstoreA ?_ | refine s_lstore ?_) | (refine g_lalloc ?_; refine s_lalloc ?_) | (refine g_lbox ?_; first | refine s_lboxF ?_ | refine s_lboxW ?_ | refine s_lbox ?_) | refine o_callp (by with_unfolding_all rfl) (by first | exact plusF _ _ _) ?_ | (refine o_callg (by with_unfolding_all rfl) (by first | exact plusF _ _ _) ?_; intro G' hle)) | (with_reducible refine i_vc ?_; first | refine v_seq ?_ | refine v_ops ?_ | (refine g_cond ?_; first | refine s_cond_t ?_ | refine s_cond_f ?_) | refine v_skip ?_ | refine v_ret ?_ | refine s_drawl ?_ | refine v_draw0 ?_) | (with_reducible refine i_plan ?_; first | refine p_done ?_ | refine s_pre ?_ | refine s_preN ?_ | refine s_ag_t ?_ | refine s_ag_f ?_ | refine p_callp (by with_unfolding_all rfl) (by first | exact plusF _ _ _) (by first | assumption | exact GH.le_refl _ | ((repeat (first | exact GH.le_refl _ | assumption | refine GH.le_trans ?_ (by assumption))); first | done | fail)) ?_ p_no | (refine p_callg (by with_unfolding_all rfl) (by first | exact plusF _ _ _) (by first | assumption | exact GH.le_refl _ | ((repeat (first | exact GH.le_refl _ | assumption | refine GH.le_trans ?_ (by assumption))); first | done | fail)) ?_ p_no; intro G' hle) | refine s_alt ?_ | refine p_alt ?_ ?_) | (with_reducible first | refine n_then ?_ | refine r_then ?_ | refine e_then ?_ | (refine g_stand ?_; first | refine s_stand ?_ | refine s_standL ?_)) | ((with_reducible first | refine s_cond_c ?_ ?_) <;> intro hb <;> rw [hb] <;> (try simp only [decide_eq_true_eq, decide_eq_false_iff_not, beq_iff_eq, bne_iff_ne, beq_eq_false_iff_ne, bne_eq_false_iff_eq, ne_eq, Int.not_lt, Int.not_le, gt_iff_lt, ge_iff_le, Bool.not_eq_true', Bool.not_eq_false'] at hb)) | ((with_reducible first | refine s_ret ?_ | refine s_normal ?_); try simp only [x_tup0, x_tup1, x_tup2, x_tup3, x_tup4, x_tup5, and_true, true_and])))
  exact fv_ext _
theorem timesSq1 (G : GH) : HC Try.prog 51 #[.agg #[.int .u64 1, .int .u64 0, .int .u64 0, .int .u64 0], nv sq256] G fun v G' => v = fv 1 ∧ G.le G' := timesSq 1 (by decide) G
theorem timesOne1 (x : Fp) (G : GH) : HC Try.prog 51 #[fv x, .agg #[.int .u64 1, .int .u64 0, .int .u64 0, .int .u64 0]] G fun v G' => v = nv x.val ∧ G.le G' := timesOne x G
theorem coefficientF (G : GH) : HC Try.prog 56 #[] G fun v G' => v = fv (of co256) ∧ G.le G' := by
  refine HC.start comp56 rfl ?_; unfold pc56
  have c1 : HC Try.prog 51 #[.agg #[.int .u64 4309448131093880907, .int .u64 7285987128567378166, .int .u64 12964664127075681980, .int .u64 6540974713487397863], nv sq256] G fun v G' => v = fv (of co256) ∧ G.le G' := timesSq co256 (by decide) G
  (repeat' (first | (with_reducible refine i_ops ?_; first | (refine g_mv ?_; refine s_mv ?_) | refine o_nil ?_ | (refine g_build ?_; first | refine s_build ?_ | refine s_buildP ?_) | (refine g_pure ?_; first | refine s_naddc ?_ | refine s_nadd ?_ | refine s_pure ?_ | refine s_saddB ?_) | (refine g_lload ?_; first | refine s_lloadF ?_ | refine s_lloadV ?_ | refine s_lloadW ?_ | refine s_lload ?_) | (refine g_lstore ?_; first | refine s_lstoreF ?_ | refine s_lstoreV ?_ | refine s_lstoreW ?_ | refine s_lstoreA ?_ | refine s_lstore ?_) | (refine g_lalloc ?_; refine s_lalloc ?_) | (refine g_lbox ?_; first | refine s_lboxF ?_ | refine s_lboxW ?_ | refine s_lbox ?_) | refine o_callp (by with_unfolding_all rfl) (by first | exact squareK _ | exact c1) ?_ | (refine o_callg (by with_unfolding_all rfl) (by first | exact squareK _ | exact c1) ?_; intro G' hle)) | (with_reducible refine i_vc ?_; first | refine v_seq ?_ | refine v_ops ?_ | (refine g_cond ?_; first | refine s_cond_t ?_ | refine s_cond_f ?_) | refine v_skip ?_ | refine v_ret ?_ | refine s_drawl ?_ | refine v_draw0 ?_) | (with_reducible refine i_plan ?_; first | refine p_done ?_ | refine s_pre ?_ | refine s_preN ?_ | refine s_ag_t ?_ | refine s_ag_f ?_ | refine p_callp (by with_unfolding_all rfl) (by first | exact squareK _ | exact c1) (by first | assumption | exact GH.le_refl _ | ((repeat (first | exact GH.le_refl _ | assumption | refine GH.le_trans ?_ (by assumption))); first | done | fail)) ?_ p_no | (refine p_callg (by with_unfolding_all rfl) (by first | exact squareK _ | exact c1) (by first | assumption | exact GH.le_refl _ | ((repeat (first | exact GH.le_refl _ | assumption | refine GH.le_trans ?_ (by assumption))); first | done | fail)) ?_ p_no; intro G' hle) | refine s_alt ?_ | refine p_alt ?_ ?_) | (with_reducible first | refine n_then ?_ | refine r_then ?_ | refine e_then ?_ | (refine g_stand ?_; first | refine s_stand ?_ | refine s_standL ?_)) | ((with_reducible first | refine s_cond_c ?_ ?_) <;> intro hb <;> rw [hb] <;> (try simp only [decide_eq_true_eq, decide_eq_false_iff_not, beq_iff_eq, bne_iff_ne, beq_eq_false_iff_ne, bne_eq_false_iff_eq, ne_eq, Int.not_lt, Int.not_le, gt_iff_lt, ge_iff_le, Bool.not_eq_true', Bool.not_eq_false'] at hb)) | ((with_reducible first | refine s_ret ?_ | refine s_normal ?_); try simp only [x_tup0, x_tup1, x_tup2, x_tup3, x_tup4, x_tup5, and_true, true_and])))
  rw [fv_ext]
  exact ⟨rfl, by assumption⟩
/-- Powers. -/
def fpow (x : Fp) (n : Nat) : Fp := if n = 0 then 1 else if n % 2 = 1 then fpow x (n / 2) * fpow x (n / 2) * x else fpow x (n / 2) * fpow x (n / 2)
termination_by n
decreasing_by all_goals omega
theorem fpow_zero (x : Fp) : fpow x 0 = 1 := by unfold fpow; rfl
theorem fpow_step (x : Fp) (n m : Nat) (h : n / 2 = m) : fpow x n = if n % 2 = 1 then fpow x m * fpow x m * x else fpow x m * fpow x m := by
  subst h
  by_cases h0 : n = 0
  · subst h0; rw [if_neg (by decide), fpow_zero]; rfl
  · conv => lhs; unfold fpow
    rw [if_neg h0]
def inv256 : Nat := 115792089210356248762697446949407573530086143415290314195533631308867097853949
def finv (x : Fp) : Fp := fpow x inv256
theorem bitK (e j : Nat) (hj : j < 256) : ((fd 18446744073709551616 4 e).getD (j / 64) 0 / 2 ^ (j % 64) &&& 1) % 18446744073709551616 = e / 2 ^ j % 2 := by
  rw [fd_getD 18446744073709551616 e (by omega), Nat.and_one_is_mod]
  have e1 : (18446744073709551616 : Nat) ^ (j / 64) = 2 ^ (64 * (j / 64)) := by rw [Nat.pow_mul]
  have e2 : (18446744073709551616 : Nat) = 2 ^ (j % 64) * 2 ^ (64 - j % 64) := by rw [← Nat.pow_add, show j % 64 + (64 - j % 64) = 64 by omega]
  have e3 : e / 18446744073709551616 ^ (j / 64) % 18446744073709551616 / 2 ^ (j % 64) % 2 = e / 2 ^ j % 2 := by
    rw [e1]
    conv => lhs; arg 1; arg 1; arg 2; rw [e2]
    rw [Nat.mod_mul_right_div_self, Nat.mod_mod_of_dvd _ (by rw [show 64 - j % 64 = (63 - j % 64) + 1 by omega, Nat.pow_succ]; exact Nat.dvd_mul_left _ _), Nat.div_div_eq_div_mul, ← Nat.pow_add, show 64 * (j / 64) + j % 64 = j by omega]
  rw [e3]; omega
end Go.Proofs.Ytdeihgcgglhhcaa.V
