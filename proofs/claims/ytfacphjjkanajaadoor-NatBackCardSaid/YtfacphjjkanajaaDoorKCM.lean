/- Small numbers (of 64 bits, signed) as natural numbers. -/
import Derived.Test.YtfacphjjkanajaaDoorKCW
set_option linter.unusedSimpArgs false
set_option linter.unusedVariables false
namespace Go.Proofs.YtfacphjjkanajaaDoor.V
open Go.RowKit
theorem nadd (x y : Nat) (h : x + y < 9223372036854775808) : pureV (.bin .add) [iv .i64 x, iv .i64 y] = some (iv .i64 (x + y)) := by
  rw [x_add, wrap_i64 (by omega) (by omega)]; simp only [iv, Int.natCast_add]
theorem nsub (x y : Nat) (h : y ≤ x) (hx : x < 9223372036854775808) : pureV (.bin .sub) [iv .i64 x, iv .i64 y] = some (iv .i64 (x - y)) := by
  rw [x_sub, wrap_i64 (by omega) (by omega)]; simp only [iv]; congr 2; omega
theorem nmul (x y : Nat) (h : x * y < 9223372036854775808) : pureV (.bin .mul) [iv .i64 x, iv .i64 y] = some (iv .i64 (x * y)) := by
  have e : ((x : Int) * (y : Int)) = ((x * y : Nat) : Int) := by rw [Int.natCast_mul]
  rw [x_mul, e, wrap_i64 (by omega) (by omega)]
theorem nquo (x y : Nat) (hx : x < 9223372036854775808) (h : y ≠ 0) : pureV (.bin .quo) [iv .i64 x, iv .i64 y] = some (iv .i64 (x / y)) := by
  have := Nat.div_le_self x y
  rw [x_quo, if_neg (by omega), Int.tdiv_eq_ediv_of_nonneg (by omega), ← Int.natCast_ediv]; generalize x / y = q at *; rw [wrap_i64 (by omega) (by omega)]
theorem nrem (x y : Nat) (h : y ≠ 0) : pureV (.bin .rem) [iv .i64 x, iv .i64 y] = some (iv .i64 (x % y)) := by
  rw [x_rem, if_neg (by omega), Int.tmod_eq_emod_of_nonneg (by omega), ← Int.natCast_emod]
theorem nconv (k : IntKind) (x : Nat) (h : x < 9223372036854775808) : pureV (.convI .i64) [iv k x] = some (iv .i64 x) := by
  rw [x_convI, wrap_i64 (by omega) (by omega)]
theorem wconv (k : IntKind) (x : Nat) (h : x < 18446744073709551616) : pureV (.convI .u64) [iv k x] = some (iv .u64 x) := by
  rw [x_convI, wrap_u64]; simp only [iv]; congr 2; omega
section
variable {P : Program} {E : Env} {K : St → Prop} {r : List Stp} {dd : Option Nat} {L : SL} {A : AL} {G : GH}
theorem s_nadd {d : Nat} {xs : List Operand} {x y : Nat} (h : vops P E r K (S (.set d (iv .i64 (x + y)) L) A G)) (hx : evs L xs = some [.int .i64 x, .int .i64 y] := by with_unfolding_all rfl) (h1 : x + y < 9223372036854775808 := by omega) : vops P E (⟨none, dd, .pure d (.bin .add) xs⟩ :: r) K (S L A G) := o_pure hx (nadd x y h1) h
theorem s_nsub {d : Nat} {xs : List Operand} {x y : Nat} (h : vops P E r K (S (.set d (iv .i64 (x - y)) L) A G)) (hx : evs L xs = some [.int .i64 x, .int .i64 y] := by with_unfolding_all rfl) (h1 : y ≤ x := by omega) (h2 : x < 9223372036854775808 := by omega) : vops P E (⟨none, dd, .pure d (.bin .sub) xs⟩ :: r) K (S L A G) := o_pure hx (nsub x y h1 h2) h
theorem s_nmul {d : Nat} {xs : List Operand} {x y : Nat} (h : vops P E r K (S (.set d (iv .i64 (x * y)) L) A G)) (hx : evs L xs = some [.int .i64 x, .int .i64 y] := by with_unfolding_all rfl) (h1 : x * y < 9223372036854775808 := by omega) : vops P E (⟨none, dd, .pure d (.bin .mul) xs⟩ :: r) K (S L A G) := o_pure hx (nmul x y h1) h
theorem s_nconv {d : Nat} {xs : List Operand} {k : IntKind} {x : Nat} (h : vops P E r K (S (.set d (iv .i64 x) L) A G)) (hx : evs L xs = some [.int k x] := by with_unfolding_all rfl) (h1 : x < 9223372036854775808 := by omega) : vops P E (⟨none, dd, .pure d (.convI .i64) xs⟩ :: r) K (S L A G) := o_pure hx (nconv k x h1) h
theorem s_wconv {d : Nat} {xs : List Operand} {k : IntKind} {x : Nat} (h : vops P E r K (S (.set d (iv .u64 x) L) A G)) (hx : evs L xs = some [.int k x] := by with_unfolding_all rfl) (h1 : x < 18446744073709551616 := by omega) : vops P E (⟨none, dd, .pure d (.convI .u64) xs⟩ :: r) K (S L A G) := o_pure hx (wconv k x h1) h
/-- A number is appended to what is its own. -/
theorem o_appendN {k : IntKind} {bytes d : Nat} {e : TypeId} {zero : Array Value} {x y : Operand} {u v : Value} {xs ys : List Nat} {G0 : GH} (hx : evo L x = some u) (hy : evo L y = some v) (hu : Own 1 G0 G u (xs.map (iv k))) (hv : Nu k G v ys) (hz : zero.size = 1) (hG : G0.le G)
    (hf : fitB ((xs.length + ys.length) * bytes) bytes ∧ xs.length + ys.length ≤ 9223372036854775807)
    (h : ∀ u' G', G0.le G' → Own 1 G0 G' u' ((xs ++ ys).map (iv k)) → (∀ b, blkS u ≠ some b → ∀ o, G b = some o → G' b = some o) → vops P E r K (S (.set d u' L) A G')) : vops P E (⟨none, dd, .append d e 1 bytes zero x y⟩ :: r) K (S L A G) := by
  have e1 := Nu.len hu.sl
  have e2 := Nu.len hv
  refine o_appendO hx hy hu hv (nu_cells k ys) hz hG (by rw [e1, e2]; exact hf) ?_
  intro u' G' a1 a2 a3 a4 a5
  rw [← List.map_append] at a2
  exact h u' G' a1 a2 a4
/-- A number is put behind what is its own. -/
theorem s_pushN {k : IntKind} {bytes d1 d2 : Nat} {dd1 dd2 : Option Nat} {e1 e2 : TypeId} {zero cells : Array Value} {x y : Operand} {u : Value} {v : Nat} {xs : List Nat} {G0 : GH}
    (h : ∀ w u' G', G0.le G' → Own 1 G0 G' u' ((xs ++ [v]).map (iv k)) → (∀ b, blkS u ≠ some b → ∀ o, G b = some o → G' b = some o) → vops P E r K (S (.set d2 u' (.set d1 w L)) A G'))
    (hy : evo L y = some (.int k v) := by with_unfolding_all rfl) (hx : ∀ w, evo (.set d1 w L) x = some u := by intro w; with_unfolding_all rfl) (hd : Nat.beq d1 d1 = true := by exact Nat.beq_refl _) (hu : Own 1 G0 G u (xs.map (iv k)) := by assumption) (hG : G0.le G := by exact (by first | assumption | exact GH.le_refl _ | ((repeat (first | exact GH.le_refl _ | assumption | refine GH.le_trans ?_ (by assumption))); first | done | fail))) (hf : (xs.length + 1) * bytes ≤ 140737488355328 := by omega) (hm : xs.length + 1 ≤ 9223372036854775807 := by omega)
    (hz : zero.size = 1 := by with_unfolding_all rfl) (hc : cells.size = 1 := by with_unfolding_all rfl) : vops P E (⟨none, dd1, .bslice d1 e1 1 cells [(0, 1)] [y]⟩ :: ⟨none, dd2, .append d2 e2 1 bytes zero x (.tmp d1)⟩ :: r) K (S L A G) := by
  refine o_bsliceO (vs := [iv k v]) (by simp only [evs, hy]) rfl rfl hc rfl rfl ?_
  intro w G1 hle ho hw
  refine o_appendN (ys := [v]) (hx w) (by simp only [evo, SL.get, hd]) (hu.le hle) ho.sl hz (GH.le_trans hG hle) ⟨.inl hf, hm⟩ ?_
  intro u' G' h1 h2 h3
  exact h w u' G' h1 h2 fun b hb o ho => h3 b hb o (hle b o ho)
theorem o_slcN01 {d : Nat} {x z : Operand} {u : Value} {k k' : IntKind} {j : Nat} {xs : List Nat} (hx : evo L x = some u) (hb : Nu k G u xs) (hz : evo L z = some (.int k' j)) (hj : j ≤ xs.length) (h : ∀ u', Nu k G u' (xs.take j) → blkS u' = blkS u → vops P E r K (S (.set d u' L) A G)) : vops P E (⟨none, dd, .pure d (.slc 1 false true false) [x, z]⟩ :: r) K (S L A G) := by
  obtain ⟨u', e1, e2, e3⟩ := Sl.slc01 hb (k' := k') (j := j) (by omega) (by rw [Nu.len hb]; omega)
  refine o_pure (vs := [u, .int k' j]) (by simp only [evs, hx, hz]) e1 (h u' ?_ e3)
  rw [Int.toNat_natCast, Nat.mul_one, ← List.map_take] at e2; exact e2
/-- The index into what is one's own: read and written. -/
theorem s_idxON {d : Nat} {x y : Operand} {u : Value} {k k' : IntKind} {j : Int} {xs : List Nat} {G0 : GH} (h : ∀ p, PtR G p 1 false (iv k (xs.getD j.toNat 0)) → PtW G0 G p u (xs.map (iv k)) j.toNat → vops P E r K (S (.set d p L) A G)) (hx : evo L x = some u := by with_unfolding_all rfl) (hb : Own 1 G0 G u (xs.map (iv k)) := by assumption) (hy : evo L y = some (.int k' j) := by with_unfolding_all rfl) (h0 : 0 ≤ j := by omega) (h1 : j < xs.length := by omega) : vops P E (⟨none, dd, .pure d (.iptrS 1) [x, y]⟩ :: r) K (S L A G) := by
  obtain ⟨p, hp, hw⟩ := hb.ptw (k := k') h0 (by simpa using h1)
  obtain ⟨p', hp', hr⟩ := Sl.idx hb.sl (k := k') h0 (by simpa using h1)
  have : p = p' := by rw [hp] at hp'; exact Option.some.inj hp'
  subst this
  exact o_pure (vs := [u, .int k' j]) (by simp only [evs, hx, hy]) hp (h p (hr _ (nu_get xs (by omega))) hw)
theorem s_hstoreN {x z : Operand} {p u : Value} {k : IntKind} {v : Nat} {xs : List Nat} {j : Nat} {G0 : GH} (h : ∀ G', G0.le G' → Own 1 G0 G' u ((xs.set j v).map (iv k)) → (∀ b, blkS u ≠ some b → ∀ o, G b = some o → G' b = some o) → vops P E r K (S L A G')) (hx : evo L x = some p := by with_unfolding_all rfl) (hp : PtW G0 G p u (xs.map (iv k)) j := by assumption) (hz : evo L z = some (.int k v) := by with_unfolding_all rfl) (hG : G0.le G := by exact (by first | assumption | exact GH.le_refl _ | ((repeat (first | exact GH.le_refl _ | assumption | refine GH.le_trans ?_ (by assumption))); first | done | fail))) : vops P E (⟨none, dd, .hstore 1 x z⟩ :: r) K (S L A G) := by
  refine o_hstoreO hx hp hz rfl hG ?_
  intro G' h1 h2 h3
  rw [← List.map_set] at h2
  exact h G' h1 h2 h3
theorem g_push {d1 d2 e1 e2 bytes : Nat} {dd1 dd2 : Option Nat} {zero cells : Array Value} {x y : Operand} (h : vops P E (⟨none, dd1, .bslice d1 e1 1 cells [(0, 1)] [y]⟩ :: ⟨none, dd2, .append d2 e2 1 bytes zero x (.tmp d1)⟩ :: r) K (S L A G)) : vops P E (⟨none, dd1, .bslice d1 e1 1 cells [(0, 1)] [y]⟩ :: ⟨none, dd2, .append d2 e2 1 bytes zero x (.tmp d1)⟩ :: r) K (S L A G) := h
end
open Go.ChangeShapes Go.WideShapes Go.ChangeAt
/-- Numbers of 64 bits that come in. -/
theorem wf_u64 {n : Int} (h : (Lit.int .u64 n).wf = true) : ∃ x : Nat, n = x ∧ x < 18446744073709551616 := by
  have h2 : 0 ≤ n ∧ n ≤ 18446744073709551615 := by simpa [Lit.wf, IntKind.has, IntKind.min, IntKind.max, IntKind.signed, IntKind.bits] using h
  exact ⟨n.toNat, by omega, by omega⟩
theorem words_of : ∀ (xs : List Value), (∀ i, i < xs.length → ∃ x : Nat, x < 18446744073709551616 ∧ xs[i]? = some (iv .u64 x)) → ∃ l : List Nat, xs = l.map (iv .u64) ∧ Dl 18446744073709551616 l
  | [], _ => ⟨[], rfl, fun x hx => by simp at hx⟩
  | x :: xs, h => by
    obtain ⟨b, hb0, hb⟩ := h 0 (by simp)
    obtain ⟨bs, hbs, hd⟩ := words_of xs fun i hi => by
      obtain ⟨b, hb0, hb⟩ := h (i + 1) (by simpa using hi)
      exact ⟨b, hb0, by simpa using hb⟩
    simp at hb
    refine ⟨b :: bs, by rw [hb, hbs]; rfl, fun y hy => ?_⟩
    rcases List.mem_cons.1 hy with rfl | hy
    · exact hb0
    · exact hd y hy
theorem top_words {H : Type} {enc : TypeId × Value → H} {P : Program} {w : World} {r : Reach} {base : Nat} {v : Value} {ps : List MemPlace} {t e : TypeId} {d : DataW H} {ts : List TypeId} {ds : List (DataW H)} (j : Nat) (ht : P.underlying t = some (.slice e)) (he : P.underlying e = some (.int .u64)) (hn : P.cellsOf e = 1) (hB : P.bytesOf e = 8)
    (hv : Value.okWide P w r base t v) (h : DataW.Trod enc P w 0 (fun _ => true) true t v d ps) (hsz : (DataW.weightsEach P ts ds).all (· ≤ reachBytes) = true) (htj : ts[j]? = some t) (hdj : ds[j]? = some d) : ∃ xs, Nu .u64 (whole w) v xs ∧ Dl 18446744073709551616 xs ∧ xs.length * 8 ≤ 140737488351232 := by
  rcases top_slice ht (by rw [hn]; decide) hv h with ⟨rfl, rfl⟩ | ⟨elems, spare, flat, rfl, h1, h5, h6⟩
  · exact ⟨[], Sl.nil 1 _, fun x hx => by simp at hx, by simp⟩
  · rw [hn] at h5 h6
    have hl : flat.length = lenS v := by simpa using h5.len
    obtain ⟨xs, rfl, hd⟩ := words_of flat fun i hi => by
      obtain ⟨di, _, hd⟩ := h6 i (by omega)
      obtain ⟨n, hc, _, hw⟩ := Td.int he hd
      obtain ⟨x, rfl, hx⟩ := wf_u64 hw
      refine ⟨x, hx, ?_⟩
      rw [Nat.mul_one] at hc
      have := congrArg (fun l => l[0]?) hc
      simpa [List.getElem?_take, List.getElem?_drop] using this
    have := top_len hsz htj hdj ht hB
    refine ⟨xs, h5, hd, ?_⟩
    rw [h1, ← hl] at this
    simpa using this
end Go.Proofs.YtfacphjjkanajaaDoor.V
