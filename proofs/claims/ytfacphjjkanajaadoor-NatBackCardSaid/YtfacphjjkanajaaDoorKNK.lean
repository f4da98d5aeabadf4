/- Words of 64 bits: how many bits they have, and two words divided by one. -/
import Derived.Test.YtfacphjjkanajaaDoorKNB
import Derived.Test.YtfacphjjkanajaaDoorKCX
set_option linter.unusedSimpArgs false
set_option linter.unusedVariables false
-- @nums
-- @extra s_len8 s_wshrc s_wshr s_wshlc s_wshl s_waddc s_wadd s_wsubc s_wsub s_wmulc s_wmul s_wquo s_wrem s_wand32 s_wor' s_c8 s_wconv s_wmull s_wsubl
namespace Go.Proofs.YtfacphjjkanajaaDoor.V
open Go.RowKit Go.ChangeShapes Go.WideShapes
section
variable {P : Program} {E : Env} {K : St → Prop} {r : List Stp} {dd : Option Nat} {L : SL} {A : AL} {G : GH}
theorem s_c8 {d : Nat} {k : IntKind} {xs : List Operand} {x : Nat} (h : vops P E r K (S (.set d (iv .u8 x) L) A G)) (hx : evs L xs = some [.int k x] := by with_unfolding_all rfl) (h1 : x < 256 := by omega) : vops P E (⟨none, dd, .pure d (.convI .u8) xs⟩ :: r) K (S L A G) := o_pure hx (by rw [x_convI, wrap_u8]; simp only [iv]; congr 2; omega) h
set_option maxRecDepth 100000 in
def tab8 : ByteArray := ⟨#[0, 1, 2, 2, 3, 3, 3, 3, 4, 4, 4, 4, 4, 4, 4, 4, 5, 5, 5, 5, 5, 5, 5, 5, 5, 5, 5, 5, 5, 5, 5, 5, 6, 6, 6, 6, 6, 6, 6, 6, 6, 6, 6, 6, 6, 6, 6, 6, 6, 6, 6, 6, 6, 6, 6, 6, 6, 6, 6, 6, 6, 6, 6, 6, 7, 7, 7, 7, 7, 7, 7, 7, 7, 7, 7, 7, 7, 7, 7, 7, 7, 7, 7, 7, 7, 7, 7, 7, 7, 7, 7, 7, 7, 7, 7, 7, 7, 7, 7, 7, 7, 7, 7, 7, 7, 7, 7, 7, 7, 7, 7, 7, 7, 7, 7, 7, 7, 7, 7, 7, 7, 7, 7, 7, 7, 7, 7, 7, 8, 8, 8, 8, 8, 8, 8, 8, 8, 8, 8, 8, 8, 8, 8, 8, 8, 8, 8, 8, 8, 8, 8, 8, 8, 8, 8, 8, 8, 8, 8, 8, 8, 8, 8, 8, 8, 8, 8, 8, 8, 8, 8, 8, 8, 8, 8, 8, 8, 8, 8, 8, 8, 8, 8, 8, 8, 8, 8, 8, 8, 8, 8, 8, 8, 8, 8, 8, 8, 8, 8, 8, 8, 8, 8, 8, 8, 8, 8, 8, 8, 8, 8, 8, 8, 8, 8, 8, 8, 8, 8, 8, 8, 8, 8, 8, 8, 8, 8, 8, 8, 8, 8, 8, 8, 8, 8, 8, 8, 8, 8, 8, 8, 8, 8, 8, 8, 8, 8, 8, 8, 8, 8, 8, 8, 8, 8, 8]⟩
set_option maxRecDepth 100000 in
theorem tab8_at : ∀ j : Fin 256, (tab8[j.val]'(show j.val < 256 from j.2)).toNat = bitLen j.val := by decide +kernel
theorem evs2d {a : Operand} {v c : Value} (h : evo L a = some v) : evs L [.const c, a] = some [c, v] := by
  show (match (match evo L a with | none => none | some v => match evs L [] with | none => none | some vs => some (v :: vs)) with | none => none | some vs => some (c :: vs)) = _
  rw [h]; rfl
set_option maxRecDepth 100000 in
theorem s_len8 {d : Nat} {a : Operand} {k : IntKind} {x : Nat} {s : ByteArray} (h : vops P E r K (S (.set d (iv .u8 (bitLen x)) L) A G)) (hx : evo L a = some (.int k x) := by with_unfolding_all rfl) (hs : s = tab8 := by with_unfolding_all rfl) (h1 : x < 256 := by omega) : vops P E (⟨none, dd, .pure d .idxS [.const (.string s), a]⟩ :: r) K (S L A G) := by
  subst hs
  refine o_pure (vs := [.string tab8, .int k x]) (evs2d hx) ?_ h
  have hs : tab8.size = 256 := rfl
  have h2 : (0 : Int) ≤ (x : Int) ∧ (x : Int).toNat < tab8.size := ⟨by omega, by rw [hs]; omega⟩
  simp only [pureV]
  rw [dif_pos h2]
  have h3 := tab8_at ⟨x, h1⟩
  exact congrArg (fun z : Nat => some (Value.int .u8 (z : Int))) h3
theorem s_wand32 {d : Nat} {a : Operand} {x : Nat} (h : vops P E r K (S (.set d (iv .u64 (x % 4294967296)) L) A G)) (hx : evo L a = some (.int .u64 x) := by with_unfolding_all rfl) : vops P E (⟨none, dd, .pure d (.bin .and) [a, .const (.int .u64 4294967295)]⟩ :: r) K (S L A G) :=
  o_pure (vs := [iv .u64 x, iv .u64 4294967295]) (evs2c hx) (by rw [wand, and32]) h
theorem s_wor' {d : Nat} {xs : List Operand} {x y : Nat} (h : vops P E r K (S (.set d (iv .u64 (x ||| y)) L) A G)) (hx : evs L xs = some [.int .u64 x, .int .u64 y] := by with_unfolding_all rfl) (h1 : x < 18446744073709551616 := by omega) (h2 : y < 18446744073709551616 := by omega) : vops P E (⟨none, dd, .pure d (.bin .or) xs⟩ :: r) K (S L A G) := o_pure hx (wor x y h1 h2) h
theorem s_wmull {d : Nat} {a : Operand} {x n : Nat} (h : vops P E r K (S (.set d (iv .u64 (((OfNat.ofNat n : Nat) * x) % 18446744073709551616)) L) A G)) (hx : evo L a = some (.int .u64 x) := by with_unfolding_all rfl) : vops P E (⟨none, dd, .pure d (.bin .mul) [.const (.int .u64 (OfNat.ofNat n)), a]⟩ :: r) K (S L A G) := o_pure (vs := [iv .u64 n, iv .u64 x]) (evs2d hx) (wmul n x) h
theorem s_wsubl {d : Nat} {a : Operand} {x n : Nat} (h : vops P E r K (S (.set d (iv .u64 (((OfNat.ofNat n : Nat) + 18446744073709551616 - x) % 18446744073709551616)) L) A G)) (hx : evo L a = some (.int .u64 x) := by with_unfolding_all rfl) (h1 : x ≤ 18446744073709551616 := by omega) : vops P E (⟨none, dd, .pure d (.bin .sub) [.const (.int .u64 (OfNat.ofNat n)), a]⟩ :: r) K (S L A G) := o_pure (vs := [iv .u64 n, iv .u64 x]) (evs2d hx) (wsub n x h1) h
end
theorem bl_shift {y b : Nat} (h : 2 ^ b ≤ y) : bitLen y = b + bitLen (y / 2 ^ b) := bitLen_shift y b (by have := (Nat.le_div_iff_mul_le (Nat.two_pow_pos b)).2 (show 1 * 2 ^ b ≤ y by omega); omega)
theorem Len64 (x : Nat) (G : GH) (h : x < 18446744073709551616) : HC Tryd.prog 35 #[iv .u64 x] G fun v G' => v = iv .i64 (bitLen x) ∧ G' = G := by
  have B0 : x / 2 ^ 32 / 2 ^ 16 / 2 ^ 8 < 256 → bitLen (x / 2 ^ 32 / 2 ^ 16 / 2 ^ 8) ≤ 8 := fun h => bitLen_le8 _ h
  have B1 : x / 2 ^ 32 / 2 ^ 16 < 256 → bitLen (x / 2 ^ 32 / 2 ^ 16) ≤ 8 := fun h => bitLen_le8 _ h
  have B2 : x / 2 ^ 32 / 2 ^ 8 < 256 → bitLen (x / 2 ^ 32 / 2 ^ 8) ≤ 8 := fun h => bitLen_le8 _ h
  have B3 : x / 2 ^ 32 < 256 → bitLen (x / 2 ^ 32) ≤ 8 := fun h => bitLen_le8 _ h
  have B4 : x / 2 ^ 16 / 2 ^ 8 < 256 → bitLen (x / 2 ^ 16 / 2 ^ 8) ≤ 8 := fun h => bitLen_le8 _ h
  have B5 : x / 2 ^ 16 < 256 → bitLen (x / 2 ^ 16) ≤ 8 := fun h => bitLen_le8 _ h
  have B6 : x / 2 ^ 8 < 256 → bitLen (x / 2 ^ 8) ≤ 8 := fun h => bitLen_le8 _ h
  have B7 : x < 256 → bitLen (x) ≤ 8 := fun h => bitLen_le8 _ h
  have L0 : 2 ^ 32 ≤ x → bitLen (x) = 32 + bitLen (x / 2 ^ 32) := fun h => bl_shift h
  have L1 : 2 ^ 16 ≤ x / 2 ^ 32 → bitLen (x / 2 ^ 32) = 16 + bitLen (x / 2 ^ 32 / 2 ^ 16) := fun h => bl_shift h
  have L2 : 2 ^ 8 ≤ x / 2 ^ 32 / 2 ^ 16 → bitLen (x / 2 ^ 32 / 2 ^ 16) = 8 + bitLen (x / 2 ^ 32 / 2 ^ 16 / 2 ^ 8) := fun h => bl_shift h
  have L3 : 2 ^ 8 ≤ x / 2 ^ 32 → bitLen (x / 2 ^ 32) = 8 + bitLen (x / 2 ^ 32 / 2 ^ 8) := fun h => bl_shift h
  have L4 : 2 ^ 16 ≤ x → bitLen (x) = 16 + bitLen (x / 2 ^ 16) := fun h => bl_shift h
  have L5 : 2 ^ 8 ≤ x / 2 ^ 16 → bitLen (x / 2 ^ 16) = 8 + bitLen (x / 2 ^ 16 / 2 ^ 8) := fun h => bl_shift h
  have L6 : 2 ^ 8 ≤ x → bitLen (x) = 8 + bitLen (x / 2 ^ 8) := fun h => bl_shift h
  refine HC.start comp35 rfl ?_; unfold pc35
  (repeat' (first | (with_reducible refine i_ops ?_; first | (refine g_mv ?_; refine s_mv ?_) | refine o_nil ?_ | (refine g_pure ?_; first | refine s_len8 ?_ | refine s_wshrc ?_ | refine s_wshr ?_ | refine s_wshlc ?_ | refine s_wshl ?_ | refine s_waddc ?_ | refine s_wadd ?_ | refine s_wsubc ?_ | refine s_wsub ?_ | refine s_wmulc ?_ | refine s_wmul ?_ | refine s_wquo ?_ | refine s_wrem ?_ | refine s_wand32 ?_ | refine s_wor' ?_ | refine s_c8 ?_ | refine s_wconv ?_ | refine s_wmull ?_ | refine s_wsubl ?_ | refine s_pure ?_ | refine s_saddB ?_)) | (with_reducible refine i_vc ?_; first | refine v_seq ?_ | refine v_ops ?_ | (refine g_cond ?_; first | refine s_cond_t ?_ | refine s_cond_f ?_) | refine v_skip ?_ | refine v_ret ?_) | (with_reducible first | refine n_then ?_ | refine r_then ?_ | refine e_then ?_) | ((with_reducible first | refine s_cond_c ?_ ?_) <;> intro hb <;> rw [hb] <;> (try simp only [decide_eq_true_eq, decide_eq_false_iff_not, beq_iff_eq, bne_iff_ne, beq_eq_false_iff_ne, bne_eq_false_iff_eq, ne_eq, Int.not_lt, Int.not_le, gt_iff_lt, ge_iff_le, Bool.not_eq_true', Bool.not_eq_false'] at hb)) | ((with_reducible first | refine s_ret ?_ | refine s_normal ?_); try simp only [x_tup0, x_tup1, x_tup2, x_tup3, x_tup4, x_tup5, and_true, true_and])))
  all_goals
    simp only [iv]
    first | (congr 1; omega) | (rw [wrap_i64 (by omega) (by omega)]; congr 1; omega)
theorem bitLen_le64 {x : Nat} (h : x < 18446744073709551616) : bitLen x ≤ 64 := by
  by_cases h0 : x = 0
  · subst h0; decide
  · have := (bitLen_spec x).2 h0
    by_cases hb : bitLen x ≤ 64
    · exact hb
    · have h2 : 2 ^ 64 ≤ 2 ^ (bitLen x - 1) := Nat.pow_le_pow_right (by decide) (by omega)
      omega
theorem LeadingZeros64 (x : Nat) (G : GH) (h : x < 18446744073709551616) : HC Tryd.prog 27 #[iv .u64 x] G fun v G' => v = iv .i64 (64 - bitLen x) ∧ G' = G := by
  have h1 := bitLen_le64 h
  refine HC.start comp27 rfl ?_; unfold pc27
  (repeat' (first | (with_reducible refine i_ops ?_; first | (refine g_mv ?_; refine s_mv ?_) | refine o_nil ?_ | (refine g_pure ?_; first | refine s_len8 ?_ | refine s_wshrc ?_ | refine s_wshr ?_ | refine s_wshlc ?_ | refine s_wshl ?_ | refine s_waddc ?_ | refine s_wadd ?_ | refine s_wsubc ?_ | refine s_wsub ?_ | refine s_wmulc ?_ | refine s_wmul ?_ | refine s_wquo ?_ | refine s_wrem ?_ | refine s_wand32 ?_ | refine s_wor' ?_ | refine s_c8 ?_ | refine s_wconv ?_ | refine s_wmull ?_ | refine s_wsubl ?_ | refine s_pure ?_ | refine s_saddB ?_) | refine o_callp (by with_unfolding_all rfl) (by first | exact Len64 x G h) ?_ | (refine o_callg (by with_unfolding_all rfl) (by first | exact Len64 x G h) ?_; intro G' hle)) | (with_reducible refine i_vc ?_; first | refine v_seq ?_ | refine v_ops ?_ | (refine g_cond ?_; first | refine s_cond_t ?_ | refine s_cond_f ?_) | refine v_skip ?_ | refine v_ret ?_) | (with_reducible first | refine n_then ?_ | refine r_then ?_ | refine e_then ?_) | ((with_reducible first | refine s_cond_c ?_ ?_) <;> intro hb <;> rw [hb] <;> (try simp only [decide_eq_true_eq, decide_eq_false_iff_not, beq_iff_eq, bne_iff_ne, beq_eq_false_iff_ne, bne_eq_false_iff_eq, ne_eq, Int.not_lt, Int.not_le, gt_iff_lt, ge_iff_le, Bool.not_eq_true', Bool.not_eq_false'] at hb)) | ((with_reducible first | refine s_ret ?_ | refine s_normal ?_); try simp only [x_tup0, x_tup1, x_tup2, x_tup3, x_tup4, x_tup5, and_true, true_and])))
  simp only [iv]
  congr 1; omega
/-! ### Two words divided by one, by halves -/
theorem LeadingZeros64s (x : Nat) (G : GH) (h : x < 18446744073709551616) (h0 : x ≠ 0) : HC Tryd.prog 27 #[iv .u64 x] G fun v G' => G = G' ∧ ∃ s, v = iv .i64 s ∧ s ≤ 63 ∧ 9223372036854775808 ≤ x * 2 ^ s ∧ x * 2 ^ s < 18446744073709551616 := by
  refine (LeadingZeros64 x G h).mono ?_
  rintro v G' ⟨rfl, rfl⟩
  have h1 := bitLen_le64 h
  obtain ⟨h2, h3⟩ := bitLen_spec x
  have h3 := h3 h0
  have hb : bitLen x ≠ 0 := by unfold bitLen; rw [if_neg h0]; omega
  refine ⟨rfl, _, rfl, by omega, ?_, ?_⟩
  · have := Nat.mul_le_mul_right (2 ^ (64 - bitLen x)) h3
    rw [← Nat.pow_add, show bitLen x - 1 + (64 - bitLen x) = 63 by omega] at this
    exact this
  · have := Nat.mul_lt_mul_of_pos_right h2 (Nat.two_pow_pos (64 - bitLen x))
    rw [← Nat.pow_add, show bitLen x + (64 - bitLen x) = 64 by omega] at this
    exact this
end Go.Proofs.YtfacphjjkanajaaDoor.V
