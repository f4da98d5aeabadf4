/- The bytes of a number. -/
import Derived.Test.YtfacphjjkanajaaDoorKOB
import Derived.Test.YtfacphjjkanajaaDoorKCD
set_option linter.unusedSimpArgs false
set_option linter.unusedVariables false
-- @nums
-- @extra s_c8b s_wshr s_nsub s_nsubc s_naddc s_ncmul s_ncsub
namespace Go.Proofs.YtfacphjjkanajaaDoor.V
open Go.RowKit Go.ChangeShapes Go.WideShapes
theorem dg_at {B : Nat} (hB : 2 ≤ B) : ∀ (j n : Nat), (dg B n).getD j 0 = n / B ^ j % B
  | j, 0 => by rw [dg_zero, Nat.zero_div, Nat.zero_mod]; rfl
  | 0, n + 1 => by rw [dg_pos hB (by omega), Nat.pow_zero, Nat.div_one]; rfl
  | j + 1, n + 1 => by
    rw [dg_pos hB (by omega)]
    show (dg B ((n + 1) / B)).getD j 0 = _
    rw [dg_at hB j, Nat.div_div_eq_div_mul, Nat.pow_succ, Nat.mul_comm]
theorem conv8 (k : IntKind) (z : Nat) : pureV (.convI .u8) [.int k z] = some (bv (UInt8.ofNat z)) := by
  rw [x_convI, wrap_u8]
  simp only [bv]
  congr 2
section
variable {P : Program} {E : Env} {K : St → Prop} {r : List Stp} {dd : Option Nat} {L : SL} {A : AL} {G : GH}
theorem s_c8b {d : Nat} {k : IntKind} {xs : List Operand} {x : Nat} (h : vops P E r K (S (.set d (bv (UInt8.ofNat x)) L) A G)) (hx : evs L xs = some [.int k x] := by with_unfolding_all rfl) : vops P E (⟨none, dd, .pure d (.convI .u8) xs⟩ :: r) K (S L A G) := o_pure hx (conv8 k x) h
theorem s_ncmul {d : Nat} {a : Operand} {x n : Nat} (h : vops P E r K (S (.set d (iv .i64 ((OfNat.ofNat n : Nat) * x)) L) A G)) (hx : evo L a = some (.int .i64 x) := by with_unfolding_all rfl) (h1 : (OfNat.ofNat n : Nat) * x < 9223372036854775808 := by omega) : vops P E (⟨none, dd, .pure d (.bin .mul) [.const (.int .i64 (OfNat.ofNat n)), a]⟩ :: r) K (S L A G) := by
  refine o_pure (vs := [.int .i64 ((OfNat.ofNat n : Nat) : Int), .int .i64 x]) ?_ (nmul _ x h1) h
  show (match some _ with | none => none | some v => match evs L [a] with | none => none | some vs => some (v :: vs)) = _
  have : evs L [a] = some [.int .i64 x] := by
    show (match evo L a with | none => none | some v => match some _ with | none => none | some vs => some (v :: vs)) = _
    rw [hx]
  rw [this]; rfl
theorem s_ncsub {d : Nat} {a : Operand} {x n : Nat} (h : vops P E r K (S (.set d (iv .i64 ((OfNat.ofNat n : Nat) - x)) L) A G)) (hx : evo L a = some (.int .i64 x) := by with_unfolding_all rfl) (h1 : x ≤ (OfNat.ofNat n : Nat) := by omega) (h2 : (OfNat.ofNat n : Nat) < 9223372036854775808 := by decide) : vops P E (⟨none, dd, .pure d (.bin .sub) [.const (.int .i64 (OfNat.ofNat n)), a]⟩ :: r) K (S L A G) := by
  refine o_pure (vs := [.int .i64 ((OfNat.ofNat n : Nat) : Int), .int .i64 x]) ?_ (nsub _ x h1 h2) h
  show (match some _ with | none => none | some v => match evs L [a] with | none => none | some vs => some (v :: vs)) = _
  have : evs L [a] = some [.int .i64 x] := by
    show (match evo L a with | none => none | some v => match some _ with | none => none | some vs => some (v :: vs)) = _
    rw [hx]
  rw [this]; rfl
end
theorem PtR_le {G G' : GH} {p v : Value} {n : Nat} {g : Bool} (h : PtR G p n g v) (hl : G.le G') : PtR G' p n g v := let ⟨b, q, cs, e, fr, e1, e2, e3⟩ := h; ⟨b, q, cs, e, fr, e1, hl _ _ e2, e3⟩
/-- One byte more. -/
theorem byte_step {q x k o : Nat} (hk : k < 8) (h : o = q * 256 ^ k + x / 256 ^ (8 - k)) : 256 * o + (x / 2 ^ (56 - 8 * k)) % 256 = q * 256 ^ (k + 1) + x / 256 ^ (8 - (k + 1)) := by
  have e1 : (2 : Nat) ^ (56 - 8 * k) = 256 ^ (8 - (k + 1)) := by rw [show 56 - 8 * k = 8 * (8 - (k + 1)) by omega, Nat.pow_mul]
  have e2 : x / 256 ^ (8 - k) = x / 256 ^ (8 - (k + 1)) / 256 := by rw [Nat.div_div_eq_div_mul, ← Nat.pow_succ]; congr 2; omega
  rw [h, e1, e2, Nat.pow_succ, ← Nat.mul_assoc]
  generalize q * 256 ^ k = z
  generalize x / 256 ^ (8 - (k + 1)) = y
  omega
theorem word_eq {n m i : Nat} (hi : i < m) : n / 18446744073709551616 ^ (m - i) * 256 ^ 8 + (dg 18446744073709551616 n).getD (m - 1 - i) 0 / 256 ^ (8 - 8) = n / 18446744073709551616 ^ (m - (i + 1)) := by
  rw [dg_at (by decide), Nat.sub_self, Nat.pow_zero, Nat.div_one, show m - 1 - i = m - (i + 1) by omega]
  have e : n / 18446744073709551616 ^ (m - i) = n / 18446744073709551616 ^ (m - (i + 1)) / 18446744073709551616 := by rw [Nat.div_div_eq_div_mul, ← Nat.pow_succ]; congr 2; omega
  rw [e, show (256 : Nat) ^ 8 = 18446744073709551616 by decide]
  omega
def BytesR (G : GH) (xs : List Nat) (v : Value) (G' : GH) : Prop := G.le G' ∧ ((¬ ln xs ≤ 64 ∧ v = .tuple #[.slice none 0 0, .int .i64 3]) ∨ (ln xs ≤ 64 ∧ ∃ w, v = .tuple #[w, .int .i64 0] ∧ Own 1 G G' w ((bytesOf (val 18446744073709551616 xs)).map bv)))
theorem nBytes (u : Value) (xs : List Nat) (G : GH) (h : Nu .u64 G u xs) (hd : Dl 18446744073709551616 xs) : HC Tryd.prog 10 #[u] G fun v G' => BytesR G xs v G' := by
  obtain ⟨ax, nx, cx, rfl⟩ := Sl.shape h
  refine HC.start comp10 rfl ?_; unfold pc10
  refine v_seq ?_
  refine v_ops ?_
  refine o_hbox (z := #[.slice ax nx cx]) (by with_unfolding_all rfl) rfl ?_
  intro b1 hb1
  obtain ⟨e, c1⟩ : ∃ e, (G.put b1 (.cells #[.slice ax nx cx] 24)) b1 = some (bx (.slice ax nx cx) e) := ⟨_, GH.put_same _ _ _⟩
  have hle2 : G.le (G.put b1 (.cells #[.slice ax nx cx] 24)) := GH.le_put _ hb1
  generalize G.put b1 _ = G2 at *
  (repeat' (first | (with_reducible refine i_ops ?_; first | (refine g_mv ?_; refine s_mv ?_) | refine o_nil ?_ | (refine g_len ?_; first | refine s_lenN ?_ | refine s_lenB ?_ | refine s_pure ?_) | (refine g_idx ?_; first | (refine s_idxN ?_; intro p hp; try simp only [Int.toNat_natCast] at hp) | (refine s_idxOB ?_; intro p hp hpw) | (refine s_idxB ?_; intro p hp)) | (refine g_pure ?_; first | refine s_c8b ?_ | refine s_wshr ?_ | refine s_nsub ?_ | refine s_nsubc ?_ | refine s_naddc ?_ | refine s_ncmul ?_ | refine s_ncsub ?_ | refine s_pure ?_ | refine s_saddB ?_) | (refine g_hload ?_; refine s_hloadP ?_)) | (with_reducible refine i_vc ?_; first | refine v_seq ?_ | refine v_ops ?_ | (refine g_cond ?_; first | refine s_cond_t ?_ | refine s_cond_f ?_) | refine v_block ?_ | refine v_skip ?_ | refine v_exit ?_ | refine v_ret ?_) | (with_reducible first | refine n_then ?_ | refine r_then ?_ | refine e_then ?_ | refine n_block ?_ | refine r_block ?_ | refine e_block_eq (by with_unfolding_all rfl) ?_ | refine e_block_ne (by with_unfolding_all rfl) ?_) | ((with_reducible first | refine s_cond_c ?_ ?_) <;> intro hb <;> rw [hb] <;> (try simp only [decide_eq_true_eq, decide_eq_false_iff_not, beq_iff_eq, bne_iff_ne, beq_eq_false_iff_ne, bne_eq_false_iff_eq, ne_eq, Int.not_lt, Int.not_le, gt_iff_lt, ge_iff_le, Bool.not_eq_true', Bool.not_eq_false'] at hb)) | ((with_reducible first | refine s_ret ?_ | refine s_normal ?_); try simp only [x_tup0, x_tup1, x_tup2, x_tup3, x_tup4, x_tup5, and_true, true_and])))
  refine o_bsliceO (by with_unfolding_all rfl) rfl rfl rfl rfl rfl ?_
  intro w G3 hle3 ho3 hw3
  (repeat' (first | (with_reducible refine i_ops ?_; first | (refine g_mv ?_; refine s_mv ?_) | refine o_nil ?_ | (refine g_len ?_; first | refine s_lenN ?_ | refine s_lenB ?_ | refine s_pure ?_) | (refine g_idx ?_; first | (refine s_idxN ?_; intro p hp; try simp only [Int.toNat_natCast] at hp) | (refine s_idxOB ?_; intro p hp hpw) | (refine s_idxB ?_; intro p hp)) | (refine g_pure ?_; first | refine s_c8b ?_ | refine s_wshr ?_ | refine s_nsub ?_ | refine s_nsubc ?_ | refine s_naddc ?_ | refine s_ncmul ?_ | refine s_ncsub ?_ | refine s_pure ?_ | refine s_saddB ?_) | (refine g_hload ?_; refine s_hloadP ?_)) | (with_reducible refine i_vc ?_; first | refine v_seq ?_ | refine v_ops ?_ | (refine g_cond ?_; first | refine s_cond_t ?_ | refine s_cond_f ?_) | refine v_block ?_ | refine v_skip ?_ | refine v_exit ?_ | refine v_ret ?_) | (with_reducible first | refine n_then ?_ | refine r_then ?_ | refine e_then ?_ | refine n_block ?_ | refine r_block ?_ | refine e_block_eq (by with_unfolding_all rfl) ?_ | refine e_block_ne (by with_unfolding_all rfl) ?_) | ((with_reducible first | refine s_cond_c ?_ ?_) <;> intro hb <;> rw [hb] <;> (try simp only [decide_eq_true_eq, decide_eq_false_iff_not, beq_iff_eq, bne_iff_ne, beq_eq_false_iff_ne, bne_eq_false_iff_eq, ne_eq, Int.not_lt, Int.not_le, gt_iff_lt, ge_iff_le, Bool.not_eq_true', Bool.not_eq_false'] at hb)) | ((with_reducible first | refine s_ret ?_ | refine s_normal ?_); try simp only [x_tup0, x_tup1, x_tup2, x_tup3, x_tup4, x_tup5, and_true, true_and])))
  refine o_callc (by with_unfolding_all rfl) (may1 w _ b1 xs _ G G3 (GH.le_trans hle2 hle3) (ho3.base hle2) (ho3.blk_ne c1) hb1 (hle3 _ _ c1) h hd) ?_
  rintro v G4 ⟨hle4, ⟨rfl, hno⟩ | ⟨rfl, hok, d1⟩⟩
  · (repeat' (first | (with_reducible refine i_ops ?_; first | (refine g_mv ?_; refine s_mv ?_) | refine o_nil ?_ | (refine g_len ?_; first | refine s_lenN ?_ | refine s_lenB ?_ | refine s_pure ?_) | (refine g_idx ?_; first | (refine s_idxN ?_; intro p hp; try simp only [Int.toNat_natCast] at hp) | (refine s_idxOB ?_; intro p hp hpw) | (refine s_idxB ?_; intro p hp)) | (refine g_pure ?_; first | refine s_c8b ?_ | refine s_wshr ?_ | refine s_nsub ?_ | refine s_nsubc ?_ | refine s_naddc ?_ | refine s_ncmul ?_ | refine s_ncsub ?_ | refine s_pure ?_ | refine s_saddB ?_) | (refine g_hload ?_; refine s_hloadP ?_)) | (with_reducible refine i_vc ?_; first | refine v_seq ?_ | refine v_ops ?_ | (refine g_cond ?_; first | refine s_cond_t ?_ | refine s_cond_f ?_) | refine v_block ?_ | refine v_skip ?_ | refine v_exit ?_ | refine v_ret ?_) | (with_reducible first | refine n_then ?_ | refine r_then ?_ | refine e_then ?_ | refine n_block ?_ | refine r_block ?_ | refine e_block_eq (by with_unfolding_all rfl) ?_ | refine e_block_ne (by with_unfolding_all rfl) ?_) | ((with_reducible first | refine s_cond_c ?_ ?_) <;> intro hb <;> rw [hb] <;> (try simp only [decide_eq_true_eq, decide_eq_false_iff_not, beq_iff_eq, bne_iff_ne, beq_eq_false_iff_ne, bne_eq_false_iff_eq, ne_eq, Int.not_lt, Int.not_le, gt_iff_lt, ge_iff_le, Bool.not_eq_true', Bool.not_eq_false'] at hb)) | ((with_reducible first | refine s_ret ?_ | refine s_normal ?_); try simp only [x_tup0, x_tup1, x_tup2, x_tup3, x_tup4, x_tup5, and_true, true_and])))
    exact ⟨hle4, .inl ⟨hno, rfl⟩⟩
  have P1 := bx_ptr d1
  have U1 := (trim_nu h hd).le hle4
  generalize trimS (.slice ax nx cx) (ln xs) = u at *
  have hk := hok
  unfold ln at hk
  unfold BytesR
  obtain ⟨n, hn⟩ : ∃ n, n = val 18446744073709551616 xs := ⟨_, rfl⟩
  rw [← hn] at hk U1
  have hul := Nu.len_le U1
  have hD := dg_lt (B := 18446744073709551616) (by decide) n
  obtain ⟨m, hm⟩ : ∃ m, m = (dg 18446744073709551616 n).length := ⟨_, rfl⟩
  have hn0 : n / 18446744073709551616 ^ m = 0 := by rw [hm]; exact Nat.div_eq_of_lt (lt_dg (by decide) n)
  have hwe := fun i (hi : i < m) => word_eq (n := n) hi
  generalize dg 18446744073709551616 n = ds at *
  clear ho3 hw3 d1 c1 h
  subst hm
  (repeat' (first | (with_reducible refine i_ops ?_; first | (refine g_mv ?_; refine s_mv ?_) | refine o_nil ?_ | (refine g_len ?_; first | refine s_lenN ?_ | refine s_lenB ?_ | refine s_pure ?_) | (refine g_idx ?_; first | (refine s_idxN ?_; intro p hp; try simp only [Int.toNat_natCast] at hp) | (refine s_idxOB ?_; intro p hp hpw) | (refine s_idxB ?_; intro p hp)) | (refine g_pure ?_; first | refine s_c8b ?_ | refine s_wshr ?_ | refine s_nsub ?_ | refine s_nsubc ?_ | refine s_naddc ?_ | refine s_ncmul ?_ | refine s_ncsub ?_ | refine s_pure ?_ | refine s_saddB ?_) | (refine g_hload ?_; refine s_hloadP ?_)) | (with_reducible refine i_vc ?_; first | refine v_seq ?_ | refine v_ops ?_ | (refine g_cond ?_; first | refine s_cond_t ?_ | refine s_cond_f ?_) | refine v_block ?_ | refine v_skip ?_ | refine v_exit ?_ | refine v_ret ?_) | (with_reducible first | refine n_then ?_ | refine r_then ?_ | refine e_then ?_ | refine n_block ?_ | refine r_block ?_ | refine e_block_eq (by with_unfolding_all rfl) ?_ | refine e_block_ne (by with_unfolding_all rfl) ?_) | ((with_reducible first | refine s_cond_c ?_ ?_) <;> intro hb <;> rw [hb] <;> (try simp only [decide_eq_true_eq, decide_eq_false_iff_not, beq_iff_eq, bne_iff_ne, beq_eq_false_iff_ne, bne_eq_false_iff_eq, ne_eq, Int.not_lt, Int.not_le, gt_iff_lt, ge_iff_le, Bool.not_eq_true', Bool.not_eq_false'] at hb)) | ((with_reducible first | refine s_ret ?_ | refine s_normal ?_); try simp only [x_tup0, x_tup1, x_tup2, x_tup3, x_tup4, x_tup5, and_true, true_and])))
  generalize hm : ds.length = m at *
  refine v_loopX (α := Nat × List UInt8 × Value × GH) (fun q => q.1 ≤ m ∧ q.2.1.length = 8 * q.1 ∧ num q.2.1 = n / 18446744073709551616 ^ (m - q.1) ∧ G.le q.2.2.2 ∧ G4.le q.2.2.2 ∧ Own 1 G4 q.2.2.2 q.2.2.1 (q.2.1.map bv)) (fun q => [(1, pt b1), (4, q.2.2.1), (12, .int .i64 m), (13, .int .i64 q.1)]) (fun _ => []) (fun q => q.2.2.2) (fun q => m - q.1) (0, [], .slice none 0 0, G4)
    ⟨Nat.zero_le _, rfl, by rw [Nat.sub_zero, hn0]; rfl, hle4, GH.le_refl _, .inl ⟨rfl, rfl⟩⟩ (by refine ⟨SL.get_fn (by with_unfolding_all rfl), SL.get_fn (by with_unfolding_all rfl), SL.get_fn (by with_unfolding_all rfl), SL.get_fn (by with_unfolding_all rfl), trivial⟩) trivial rfl ?_
  rintro ⟨i, o, ov, H⟩ s ll ⟨k1, k2, k3, k4, k5, k6⟩
  dsimp only at k1 k2 k3 k4 k5 k6
  dsimp only [SL.sets, AL.sets]
  have P1H := PtR_le P1 k5
  have U1H := U1.le k5
  have hg := hD.getD (by decide) (m - 1 - i)
  (repeat' (first | (with_reducible refine i_ops ?_; first | (refine g_mv ?_; refine s_mv ?_) | refine o_nil ?_ | (refine g_len ?_; first | refine s_lenN ?_ | refine s_lenB ?_ | refine s_pure ?_) | (refine g_idx ?_; first | (refine s_idxN ?_; intro p hp; try simp only [Int.toNat_natCast] at hp) | (refine s_idxOB ?_; intro p hp hpw) | (refine s_idxB ?_; intro p hp)) | (refine g_pure ?_; first | refine s_c8b ?_ | refine s_wshr ?_ | refine s_nsub ?_ | refine s_nsubc ?_ | refine s_naddc ?_ | refine s_ncmul ?_ | refine s_ncsub ?_ | refine s_pure ?_ | refine s_saddB ?_) | (refine g_hload ?_; refine s_hloadP ?_)) | (with_reducible refine i_vc ?_; first | refine v_seq ?_ | refine v_ops ?_ | (refine g_cond ?_; first | refine s_cond_t ?_ | refine s_cond_f ?_) | refine v_block ?_ | refine v_skip ?_ | refine v_exit ?_ | refine v_ret ?_) | (with_reducible first | refine n_then ?_ | refine r_then ?_ | refine e_then ?_ | refine n_block ?_ | refine r_block ?_ | refine e_block_eq (by with_unfolding_all rfl) ?_ | refine e_block_ne (by with_unfolding_all rfl) ?_) | ((with_reducible first | refine s_cond_c ?_ ?_) <;> intro hb <;> rw [hb] <;> (try simp only [decide_eq_true_eq, decide_eq_false_iff_not, beq_iff_eq, bne_iff_ne, beq_eq_false_iff_ne, bne_eq_false_iff_eq, ne_eq, Int.not_lt, Int.not_le, gt_iff_lt, ge_iff_le, Bool.not_eq_true', Bool.not_eq_false'] at hb)) | ((with_reducible first | refine s_ret ?_ | refine s_normal ?_); try simp only [x_tup0, x_tup1, x_tup2, x_tup3, x_tup4, x_tup5, and_true, true_and])))
  · rw [hm] at *
    have hx0 := hg
    have hwe0 := hwe i (by omega)
    generalize ds.getD (m - 1 - i) 0 = x at *
    refine v_loopX (α := Nat × List UInt8 × Value × GH) (fun q => q.1 ≤ 8 ∧ q.2.1.length = 8 * i + q.1 ∧ num q.2.1 = n / 18446744073709551616 ^ (m - i) * 256 ^ q.1 + x / 256 ^ (8 - q.1) ∧ G.le q.2.2.2 ∧ G4.le q.2.2.2 ∧ Own 1 G4 q.2.2.2 q.2.2.1 (q.2.1.map bv)) (fun q => [(1, pt b1), (4, q.2.2.1), (6, iv .u64 x), (12, .int .i64 m), (13, .int .i64 i), (24, .int .i64 q.1)]) (fun _ => []) (fun q => q.2.2.2) (fun q => 8 - q.1) (0, o, ov, H)
      ⟨Nat.zero_le _, k2, by rw [k3, Nat.pow_zero, Nat.mul_one, Nat.sub_zero, show (256 : Nat) ^ 8 = 18446744073709551616 by decide, Nat.div_eq_of_lt hx0, Nat.add_zero], k4, k5, k6⟩ (by refine ⟨SL.get_fn (by with_unfolding_all rfl), SL.get_fn (by with_unfolding_all rfl), SL.get_fn (by with_unfolding_all rfl), SL.get_fn (by with_unfolding_all rfl), SL.get_fn (by with_unfolding_all rfl), SL.get_fn (by with_unfolding_all rfl), trivial⟩) trivial rfl ?_
    clear k1 k2 k3 k4 k5 k6 P1H U1H hg
    rintro ⟨k, o2, w2, H2⟩ s2 l2 ⟨k1, k2, k3, k4, k5, k6⟩
    dsimp only at k1 k2 k3 k4 k5 k6
    dsimp only [SL.sets, AL.sets]
    (repeat' (first | (with_reducible refine i_ops ?_; first | (refine g_mv ?_; refine s_mv ?_) | refine o_nil ?_ | (refine g_len ?_; first | refine s_lenN ?_ | refine s_lenB ?_ | refine s_pure ?_) | (refine g_idx ?_; first | (refine s_idxN ?_; intro p hp; try simp only [Int.toNat_natCast] at hp) | (refine s_idxOB ?_; intro p hp hpw) | (refine s_idxB ?_; intro p hp)) | (refine g_pure ?_; first | refine s_c8b ?_ | refine s_wshr ?_ | refine s_nsub ?_ | refine s_nsubc ?_ | refine s_naddc ?_ | refine s_ncmul ?_ | refine s_ncsub ?_ | refine s_pure ?_ | refine s_saddB ?_) | (refine g_hload ?_; refine s_hloadP ?_)) | (with_reducible refine i_vc ?_; first | refine v_seq ?_ | refine v_ops ?_ | (refine g_cond ?_; first | refine s_cond_t ?_ | refine s_cond_f ?_) | refine v_block ?_ | refine v_skip ?_ | refine v_exit ?_ | refine v_ret ?_) | (with_reducible first | refine n_then ?_ | refine r_then ?_ | refine e_then ?_ | refine n_block ?_ | refine r_block ?_ | refine e_block_eq (by with_unfolding_all rfl) ?_ | refine e_block_ne (by with_unfolding_all rfl) ?_) | ((with_reducible first | refine s_cond_c ?_ ?_) <;> intro hb <;> rw [hb] <;> (try simp only [decide_eq_true_eq, decide_eq_false_iff_not, beq_iff_eq, bne_iff_ne, beq_eq_false_iff_ne, bne_eq_false_iff_eq, ne_eq, Int.not_lt, Int.not_le, gt_iff_lt, ge_iff_le, Bool.not_eq_true', Bool.not_eq_false'] at hb)) | ((with_reducible first | refine s_ret ?_ | refine s_normal ?_); try simp only [x_tup0, x_tup1, x_tup2, x_tup3, x_tup4, x_tup5, and_true, true_and])))
    · refine o_bsliceB [UInt8.ofNat (x / 2 ^ (56 - 8 * k))] (by with_unfolding_all rfl) rfl rfl rfl rfl rfl ?_
      intro w3 H3 hle3' ho3' hl3'
      have k6' := k6.le hle3'
      refine o_appendO (by with_unfolding_all rfl) (by with_unfolding_all rfl) k6' ho3'.sl (cells1_bytes _) rfl (GH.le_trans k5 hle3') (by rw [hl3', By.len k6'.sl]; omega) ?_
      intro w4 H4 q1 q2 q3 q4 q5
      rw [← List.map_append] at q2
      (repeat' (first | (with_reducible refine i_ops ?_; first | (refine g_mv ?_; refine s_mv ?_) | refine o_nil ?_ | (refine g_len ?_; first | refine s_lenN ?_ | refine s_lenB ?_ | refine s_pure ?_) | (refine g_idx ?_; first | (refine s_idxN ?_; intro p hp; try simp only [Int.toNat_natCast] at hp) | (refine s_idxOB ?_; intro p hp hpw) | (refine s_idxB ?_; intro p hp)) | (refine g_pure ?_; first | refine s_c8b ?_ | refine s_wshr ?_ | refine s_nsub ?_ | refine s_nsubc ?_ | refine s_naddc ?_ | refine s_ncmul ?_ | refine s_ncsub ?_ | refine s_pure ?_ | refine s_saddB ?_) | (refine g_hload ?_; refine s_hloadP ?_)) | (with_reducible refine i_vc ?_; first | refine v_seq ?_ | refine v_ops ?_ | (refine g_cond ?_; first | refine s_cond_t ?_ | refine s_cond_f ?_) | refine v_block ?_ | refine v_skip ?_ | refine v_exit ?_ | refine v_ret ?_) | (with_reducible first | refine n_then ?_ | refine r_then ?_ | refine e_then ?_ | refine n_block ?_ | refine r_block ?_ | refine e_block_eq (by with_unfolding_all rfl) ?_ | refine e_block_ne (by with_unfolding_all rfl) ?_) | ((with_reducible first | refine s_cond_c ?_ ?_) <;> intro hb <;> rw [hb] <;> (try simp only [decide_eq_true_eq, decide_eq_false_iff_not, beq_iff_eq, bne_iff_ne, beq_eq_false_iff_ne, bne_eq_false_iff_eq, ne_eq, Int.not_lt, Int.not_le, gt_iff_lt, ge_iff_le, Bool.not_eq_true', Bool.not_eq_false'] at hb)) | ((with_reducible first | refine s_ret ?_ | refine s_normal ?_); try simp only [x_tup0, x_tup1, x_tup2, x_tup3, x_tup4, x_tup5, and_true, true_and])))
      refine ⟨8 - (k + 1), by omega, (k + 1, o2 ++ [UInt8.ofNat (x / 2 ^ (56 - 8 * k))], w4, H4), rfl, ⟨by dsimp only; omega, by simp [k2]; omega, ?_, GH.le_trans hle4 q1, q1, q2⟩, (by refine ⟨SL.get_fn (by with_unfolding_all rfl), SL.get_fn (by with_unfolding_all rfl), SL.get_fn (by with_unfolding_all rfl), SL.get_fn (by with_unfolding_all rfl), SL.get_fn (by with_unfolding_all rfl), SL.get_fn (by with_unfolding_all rfl), trivial⟩), trivial, rfl⟩
      dsimp only
      rw [num_push, UInt8.toNat_ofNat', show (2 : Nat) ^ 8 = 256 from rfl]
      exact byte_step (by omega) k3
    · have hk8 : k = 8 := by omega
      subst hk8
      rw [hwe0] at k3
      exact ⟨m - (i + 1), by omega, (i + 1, o2, w2, H2), rfl, ⟨by dsimp only; omega, by dsimp only; omega, k3, k4, k5, k6⟩, (by refine ⟨SL.get_fn (by with_unfolding_all rfl), SL.get_fn (by with_unfolding_all rfl), SL.get_fn (by with_unfolding_all rfl), SL.get_fn (by with_unfolding_all rfl), trivial⟩), trivial, rfl⟩
  · have him : i = m := by omega
    subst him
    rw [Nat.sub_self, Nat.pow_zero, Nat.div_one] at k3
    refine o_callc (by with_unfolding_all rfl) (trimLeft ov o H k6.sl) ?_
    rintro w2 _ ⟨rfl, hw2⟩
    rw [← bytes_num, k3, hn] at hw2
    have hbl := strip_len o
    rw [← bytes_num, k3, hn] at hbl
    (repeat' (first | (with_reducible refine i_ops ?_; first | (refine g_mv ?_; refine s_mv ?_) | refine o_nil ?_ | (refine g_len ?_; first | refine s_lenN ?_ | refine s_lenB ?_ | refine s_pure ?_) | (refine g_idx ?_; first | (refine s_idxN ?_; intro p hp; try simp only [Int.toNat_natCast] at hp) | (refine s_idxOB ?_; intro p hp hpw) | (refine s_idxB ?_; intro p hp)) | (refine g_pure ?_; first | refine s_c8b ?_ | refine s_wshr ?_ | refine s_nsub ?_ | refine s_nsubc ?_ | refine s_naddc ?_ | refine s_ncmul ?_ | refine s_ncsub ?_ | refine s_pure ?_ | refine s_saddB ?_) | (refine g_hload ?_; refine s_hloadP ?_)) | (with_reducible refine i_vc ?_; first | refine v_seq ?_ | refine v_ops ?_ | (refine g_cond ?_; first | refine s_cond_t ?_ | refine s_cond_f ?_) | refine v_block ?_ | refine v_skip ?_ | refine v_exit ?_ | refine v_ret ?_) | (with_reducible first | refine n_then ?_ | refine r_then ?_ | refine e_then ?_ | refine n_block ?_ | refine r_block ?_ | refine e_block_eq (by with_unfolding_all rfl) ?_ | refine e_block_ne (by with_unfolding_all rfl) ?_) | ((with_reducible first | refine s_cond_c ?_ ?_) <;> intro hb <;> rw [hb] <;> (try simp only [decide_eq_true_eq, decide_eq_false_iff_not, beq_iff_eq, bne_iff_ne, beq_eq_false_iff_ne, bne_eq_false_iff_eq, ne_eq, Int.not_lt, Int.not_le, gt_iff_lt, ge_iff_le, Bool.not_eq_true', Bool.not_eq_false'] at hb)) | ((with_reducible first | refine s_ret ?_ | refine s_normal ?_); try simp only [x_tup0, x_tup1, x_tup2, x_tup3, x_tup4, x_tup5, and_true, true_and])))
    refine o_callc (by with_unfolding_all rfl) (clone w2 _ H hw2 (by omega)) ?_
    rintro w3 H3 ⟨hle3', hw3'⟩
    (repeat' (first | (with_reducible refine i_ops ?_; first | (refine g_mv ?_; refine s_mv ?_) | refine o_nil ?_ | (refine g_len ?_; first | refine s_lenN ?_ | refine s_lenB ?_ | refine s_pure ?_) | (refine g_idx ?_; first | (refine s_idxN ?_; intro p hp; try simp only [Int.toNat_natCast] at hp) | (refine s_idxOB ?_; intro p hp hpw) | (refine s_idxB ?_; intro p hp)) | (refine g_pure ?_; first | refine s_c8b ?_ | refine s_wshr ?_ | refine s_nsub ?_ | refine s_nsubc ?_ | refine s_naddc ?_ | refine s_ncmul ?_ | refine s_ncsub ?_ | refine s_pure ?_ | refine s_saddB ?_) | (refine g_hload ?_; refine s_hloadP ?_)) | (with_reducible refine i_vc ?_; first | refine v_seq ?_ | refine v_ops ?_ | (refine g_cond ?_; first | refine s_cond_t ?_ | refine s_cond_f ?_) | refine v_block ?_ | refine v_skip ?_ | refine v_exit ?_ | refine v_ret ?_) | (with_reducible first | refine n_then ?_ | refine r_then ?_ | refine e_then ?_ | refine n_block ?_ | refine r_block ?_ | refine e_block_eq (by with_unfolding_all rfl) ?_ | refine e_block_ne (by with_unfolding_all rfl) ?_) | ((with_reducible first | refine s_cond_c ?_ ?_) <;> intro hb <;> rw [hb] <;> (try simp only [decide_eq_true_eq, decide_eq_false_iff_not, beq_iff_eq, bne_iff_ne, beq_eq_false_iff_ne, bne_eq_false_iff_eq, ne_eq, Int.not_lt, Int.not_le, gt_iff_lt, ge_iff_le, Bool.not_eq_true', Bool.not_eq_false'] at hb)) | ((with_reducible first | refine s_ret ?_ | refine s_normal ?_); try simp only [x_tup0, x_tup1, x_tup2, x_tup3, x_tup4, x_tup5, and_true, true_and])))
    exact ⟨GH.le_trans k4 hle3', .inr ⟨hok, w3, rfl, hw3'.base k4⟩⟩
end Go.Proofs.YtfacphjjkanajaaDoor.V
