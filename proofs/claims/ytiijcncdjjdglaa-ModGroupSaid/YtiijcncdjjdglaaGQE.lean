/- Products modulo a number. -/
import Derived.Test.YtiijcncdjjdglaaGQD
set_option linter.unusedSimpArgs false
set_option linter.unusedVariables false
-- @nums
-- @extra s_nilPf s_nilPt s_nilNf s_nilNt s_nilck s_fptr0
namespace Go.Proofs.Ytiijcncdjjdglaa.V
open Go.RowKit Go.ChangeShapes Go.WideShapes
/-- A modulus that is made. -/
structure MO (G : GH) (b M : Nat) : Prop where
  ex : ∃ um low ur uq, PM G b M um (iv .u64 low) ur uq ∧ ML low M ∧ Nu .u64 G ur (dg 18446744073709551616 (18446744073709551616 ^ (dg 18446744073709551616 M).length % M)) ∧ Nu .u64 G uq (dg 18446744073709551616 ((18446744073709551616 ^ (dg 18446744073709551616 M).length % M) * (18446744073709551616 ^ (dg 18446744073709551616 M).length % M) % M))
  odd : M % 2 = 1
theorem MO.le {G G' : GH} {b M : Nat} (h : MO G b M) (hl : G.le G') : MO G' b M := by
  obtain ⟨⟨um, low, ur, uq, h1, h2, h3, h4⟩, h5⟩ := h
  exact ⟨⟨um, low, ur, uq, h1.le hl, h2, h3.le hl, h4.le hl⟩, h5⟩
theorem MO.h1 {G : GH} {b M : Nat} (h : MO G b M) : 1 < M := let ⟨⟨_, _, _, _, h1, _⟩, _⟩ := h; h1.h1
theorem MO.h8 {G : GH} {b M : Nat} (h : MO G b M) : (dg 18446744073709551616 M).length ≤ 8 := let ⟨⟨_, _, _, _, h1, _⟩, _⟩ := h; h1.h8
/-- What is new since G0. -/
def off (G0 G : GH) : GH := fun c => match G0 c with | none => G c | some _ => none
theorem off_get {G0 G : GH} {c : Nat} (h : G0 c = none) : off G0 G c = G c := by unfold off; rw [h]
theorem off_none {G0 G : GH} {c : Nat} {o : Obj} (h : G0 c = some o) : off G0 G c = none := by unfold off; rw [h]
theorem off_le (G0 G : GH) : (off G0 G).le G := fun c o h => by
  cases e : G0 c with
  | none => rwa [off_get e] at h
  | some x => rw [off_none e] at h; cases h
theorem off_own {G0 G : GH} {u : Value} {xs : List Value} (h : Own 1 G0 G u xs) : Sl 1 (off G0 G) u xs := h.sl.keep fun b hb o ho => by
  cases e : G0 b with
  | none => rw [off_get e]; exact ho
  | some x => exact absurd hb (h.blk_ne e)
/-- A modulus of which all is new since G0. -/
def MF (G0 G : GH) (b M : Nat) : Prop := ∃ H, MO H b M ∧ H.le G ∧ ∀ c o, G0 c = some o → H c = none
theorem MF.mo {G0 G : GH} {b M : Nat} (h : MF G0 G b M) : MO G b M := let ⟨_, h1, h2, _⟩ := h; h1.le h2
theorem MF.le {G0 G G' : GH} {b M : Nat} (h : MF G0 G b M) (hl : G.le G') : MF G0 G' b M := let ⟨H, h1, h2, h3⟩ := h; ⟨H, h1, GH.le_trans h2 hl, h3⟩
theorem MF.base {G0 G1 G : GH} {b M : Nat} (h : MF G1 G b M) (hl : G0.le G1) : MF G0 G b M := let ⟨H, h1, h2, h3⟩ := h; ⟨H, h1, h2, fun c o hc => h3 c o (hl _ _ hc)⟩
/-- It stays where only what was there before is changed. -/
theorem MF.keep {G0 G G' : GH} {b M : Nat} (h : MF G0 G b M) (hk : ∀ c, (∀ o, G0 c ≠ some o) → ∀ o, G c = some o → G' c = some o) : MF G0 G' b M :=
  let ⟨H, h1, h2, h3⟩ := h
  ⟨H, h1, fun c o hc => hk c (fun o' e => by rw [h3 c o' e] at hc; cases hc) o (h2 c o hc), h3⟩
theorem len_lt {M x : Nat} (h : x < M) : (dg 18446744073709551616 x).length ≤ (dg 18446744073709551616 M).length := dg_len_mono (B := 18446744073709551616) (by decide) (Nat.le_of_lt h)
theorem Mul' {G : GH} {b M : Nat} (h : MO G b M) (u v : Value) (xs ys : List Nat) (hu : Nu .u64 G u xs) (hv : Nu .u64 G v ys) (hd : Dl 18446744073709551616 xs) (he : Dl 18446744073709551616 ys) : HC Try.prog 16 #[pt b, u, v] G fun w G' => NumR G (ok64 xs ys) (val 18446744073709551616 xs * val 18446744073709551616 ys % M) 3 w G' := by
  have hM := h.h1
  have hc := odd_coprime64 h.odd (dg 18446744073709551616 M).length
  obtain ⟨⟨um, low, ur, uq, h1, h2, h3, h4⟩, h5⟩ := h
  refine HC.start comp16 rfl ?_; unfold pc16
  (repeat' (first | (with_reducible refine i_ops ?_; first | (refine g_mv ?_; refine s_mv ?_) | refine o_nil ?_ | (refine g_pure ?_; first | refine s_nilPf ?_ | refine s_nilPt ?_ | refine s_nilNf ?_ | refine s_nilNt ?_ | refine s_nilck ?_ | refine s_fptr0 ?_ | refine s_pure ?_ | refine s_saddB ?_) | (refine g_hload ?_; refine s_hloadP ?_)) | (with_reducible refine i_vc ?_; first | refine v_seq ?_ | refine v_ops ?_ | (refine g_cond ?_; first | refine s_cond_t ?_ | refine s_cond_f ?_) | refine v_skip ?_ | refine v_ret ?_) | (with_reducible first | refine n_then ?_ | refine r_then ?_ | refine e_then ?_) | ((with_reducible first | refine s_cond_c ?_ ?_) <;> intro hb <;> rw [hb] <;> (try simp only [decide_eq_true_eq, decide_eq_false_iff_not, beq_iff_eq, bne_iff_ne, beq_eq_false_iff_ne, bne_eq_false_iff_eq, ne_eq, Int.not_lt, Int.not_le, gt_iff_lt, ge_iff_le, Bool.not_eq_true', Bool.not_eq_false'] at hb)) | ((with_reducible first | refine s_ret ?_ | refine s_normal ?_); try simp only [x_tup0, x_tup1, x_tup2, x_tup3, x_tup4, x_tup5, and_true, true_and])))
  refine o_callc (by with_unfolding_all rfl) (both h1 u v xs ys hu hv hd he) ?_
  rintro _ G1 ⟨hle, ⟨h6, a, c, rfl⟩ | ⟨h6, a, c, rfl, ha, hc'⟩⟩
  · (repeat' (first | (with_reducible refine i_ops ?_; first | (refine g_mv ?_; refine s_mv ?_) | refine o_nil ?_ | (refine g_pure ?_; first | refine s_nilPf ?_ | refine s_nilPt ?_ | refine s_nilNf ?_ | refine s_nilNt ?_ | refine s_nilck ?_ | refine s_fptr0 ?_ | refine s_pure ?_ | refine s_saddB ?_) | (refine g_hload ?_; refine s_hloadP ?_)) | (with_reducible refine i_vc ?_; first | refine v_seq ?_ | refine v_ops ?_ | (refine g_cond ?_; first | refine s_cond_t ?_ | refine s_cond_f ?_) | refine v_skip ?_ | refine v_ret ?_) | (with_reducible first | refine n_then ?_ | refine r_then ?_ | refine e_then ?_) | ((with_reducible first | refine s_cond_c ?_ ?_) <;> intro hb <;> rw [hb] <;> (try simp only [decide_eq_true_eq, decide_eq_false_iff_not, beq_iff_eq, bne_iff_ne, beq_eq_false_iff_ne, bne_eq_false_iff_eq, ne_eq, Int.not_lt, Int.not_le, gt_iff_lt, ge_iff_le, Bool.not_eq_true', Bool.not_eq_false'] at hb)) | ((with_reducible first | refine s_ret ?_ | refine s_normal ?_); try simp only [x_tup0, x_tup1, x_tup2, x_tup3, x_tup4, x_tup5, and_true, true_and])))
    exact ⟨hle, .inl ⟨h6, rfl⟩⟩
  · have l1 := Nat.mod_lt (val 18446744073709551616 xs) (show M > 0 by omega)
    have l2 := Nat.mod_lt (val 18446744073709551616 ys) (show M > 0 by omega)
    have P3 := (h1.le hle).p3
    have l3 := Nat.mod_lt ((18446744073709551616 ^ (dg 18446744073709551616 M).length % M) * (18446744073709551616 ^ (dg 18446744073709551616 M).length % M)) (show M > 0 by omega)
    (repeat' (first | (with_reducible refine i_ops ?_; first | (refine g_mv ?_; refine s_mv ?_) | refine o_nil ?_ | (refine g_pure ?_; first | refine s_nilPf ?_ | refine s_nilPt ?_ | refine s_nilNf ?_ | refine s_nilNt ?_ | refine s_nilck ?_ | refine s_fptr0 ?_ | refine s_pure ?_ | refine s_saddB ?_) | (refine g_hload ?_; refine s_hloadP ?_)) | (with_reducible refine i_vc ?_; first | refine v_seq ?_ | refine v_ops ?_ | (refine g_cond ?_; first | refine s_cond_t ?_ | refine s_cond_f ?_) | refine v_skip ?_ | refine v_ret ?_) | (with_reducible first | refine n_then ?_ | refine r_then ?_ | refine e_then ?_) | ((with_reducible first | refine s_cond_c ?_ ?_) <;> intro hb <;> rw [hb] <;> (try simp only [decide_eq_true_eq, decide_eq_false_iff_not, beq_iff_eq, bne_iff_ne, beq_eq_false_iff_ne, bne_eq_false_iff_eq, ne_eq, Int.not_lt, Int.not_le, gt_iff_lt, ge_iff_le, Bool.not_eq_true', Bool.not_eq_false'] at hb)) | ((with_reducible first | refine s_ret ?_ | refine s_normal ?_); try simp only [x_tup0, x_tup1, x_tup2, x_tup3, x_tup4, x_tup5, and_true, true_and])))
    refine o_callc (by with_unfolding_all rfl) (timesM (h1.le hle) h2 a uq _ _ ha (h4.le hle) (dg_lt (by decide) _) (dg_lt (by decide) _) _ rfl (len_lt l1) (len_lt l3) (by rw [val_dg (by decide)]; exact l1)) ?_
    rw [val_dg (by decide), val_dg (by decide)]
    rintro t G2 ⟨hle2, t', ht1, ht2, ht3⟩
    have e1 := mont_in hc ht1 (by omega) rfl ht2
    have hle02 := GH.le_trans hle hle2
    (repeat' (first | (with_reducible refine i_ops ?_; first | (refine g_mv ?_; refine s_mv ?_) | refine o_nil ?_ | (refine g_pure ?_; first | refine s_nilPf ?_ | refine s_nilPt ?_ | refine s_nilNf ?_ | refine s_nilNt ?_ | refine s_nilck ?_ | refine s_fptr0 ?_ | refine s_pure ?_ | refine s_saddB ?_) | (refine g_hload ?_; refine s_hloadP ?_)) | (with_reducible refine i_vc ?_; first | refine v_seq ?_ | refine v_ops ?_ | (refine g_cond ?_; first | refine s_cond_t ?_ | refine s_cond_f ?_) | refine v_skip ?_ | refine v_ret ?_) | (with_reducible first | refine n_then ?_ | refine r_then ?_ | refine e_then ?_) | ((with_reducible first | refine s_cond_c ?_ ?_) <;> intro hb <;> rw [hb] <;> (try simp only [decide_eq_true_eq, decide_eq_false_iff_not, beq_iff_eq, bne_iff_ne, beq_eq_false_iff_ne, bne_eq_false_iff_eq, ne_eq, Int.not_lt, Int.not_le, gt_iff_lt, ge_iff_le, Bool.not_eq_true', Bool.not_eq_false'] at hb)) | ((with_reducible first | refine s_ret ?_ | refine s_normal ?_); try simp only [x_tup0, x_tup1, x_tup2, x_tup3, x_tup4, x_tup5, and_true, true_and])))
    refine o_callc (by with_unfolding_all rfl) (timesM (h1.le hle02) h2 t c _ _ ht3.sl (hc'.le hle2) (dg_lt (by decide) _) (dg_lt (by decide) _) _ rfl (len_lt ht1) (len_lt l2) (by rw [val_dg (by decide)]; exact ht1)) ?_
    rw [val_dg (by decide), val_dg (by decide)]
    rintro t2 G3 ⟨hle3, t2', hs1, hs2, hs3⟩
    rw [e1] at hs2
    have e2 := mont_out hc hs1 (by omega) hs2
    rw [← Nat.mul_mod] at e2
    (repeat' (first | (with_reducible refine i_ops ?_; first | (refine g_mv ?_; refine s_mv ?_) | refine o_nil ?_ | (refine g_pure ?_; first | refine s_nilPf ?_ | refine s_nilPt ?_ | refine s_nilNf ?_ | refine s_nilNt ?_ | refine s_nilck ?_ | refine s_fptr0 ?_ | refine s_pure ?_ | refine s_saddB ?_) | (refine g_hload ?_; refine s_hloadP ?_)) | (with_reducible refine i_vc ?_; first | refine v_seq ?_ | refine v_ops ?_ | (refine g_cond ?_; first | refine s_cond_t ?_ | refine s_cond_f ?_) | refine v_skip ?_ | refine v_ret ?_) | (with_reducible first | refine n_then ?_ | refine r_then ?_ | refine e_then ?_) | ((with_reducible first | refine s_cond_c ?_ ?_) <;> intro hb <;> rw [hb] <;> (try simp only [decide_eq_true_eq, decide_eq_false_iff_not, beq_iff_eq, bne_iff_ne, beq_eq_false_iff_ne, bne_eq_false_iff_eq, ne_eq, Int.not_lt, Int.not_le, gt_iff_lt, ge_iff_le, Bool.not_eq_true', Bool.not_eq_false'] at hb)) | ((with_reducible first | refine s_ret ?_ | refine s_normal ?_); try simp only [x_tup0, x_tup1, x_tup2, x_tup3, x_tup4, x_tup5, and_true, true_and])))
    rw [e2] at hs3
    exact ⟨GH.le_trans hle02 hle3, .inr ⟨h6, t2, rfl, hs3.base hle02⟩⟩
end Go.Proofs.Ytiijcncdjjdglaa.V
