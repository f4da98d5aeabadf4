/- Slices of slices of bytes that come in. -/
import Derived.Test.YtkidjjnmdpbcaaaPcCC
import Derived.Test.YtkidjjnmdpbcaaaPcVL
set_option linter.unusedSimpArgs false
set_option linter.unusedVariables false
namespace Go.Proofs.Ytkidjjnmdpbcaaa.V
open Go.RowKit Go.ChangeShapes Go.WideShapes Go.ChangeAt
theorem weightsAll_mem {H : Type} {P : Program} {e : TypeId} : ∀ {ds : List (DataW H)} {j : Nat} {d : DataW H}, ds[j]? = some d → ∀ n ∈ d.weights P e, n ∈ DataW.weightsAll P e ds
  | d0 :: ds, 0, d, hd, n, hn => by
    simp only [List.getElem?_cons_zero, Option.some.injEq] at hd
    subst hd
    simp only [DataW.weightsAll, List.mem_append]; exact .inl hn
  | d0 :: ds, j + 1, d, hd, n, hn => by
    simp only [List.getElem?_cons_succ] at hd
    simp only [DataW.weightsAll, List.mem_append]; exact .inr (weightsAll_mem hd n hn)
  | [], _, _, hd, _, _ => by simp at hd
theorem top_partsL {H : Type} {enc : TypeId × Value → H} {P : Program} {w : World} {r : Reach} {base : Nat} {v : Value} {pm : List MemPlace} {t e b : TypeId} {d : DataW H} {ts : List TypeId} {ds : List (DataW H)} (j : Nat) (ht : P.underlying t = some (.slice e)) (he : P.underlying e = some (.slice b)) (hb : P.underlying b = some (.int .u8))
    (hn : P.cellsOf e = 1) (hB : P.bytesOf e = 24) (hn2 : P.cellsOf b = 1) (hB2 : P.bytesOf b = 1)
    (hv : Value.okWide P w r base t v) (h : DataW.Trod enc P w 0 (fun _ => true) true t v d pm) (hsz : (DataW.weightsEach P ts ds).all (· ≤ reachBytes) = true) (htj : ts[j]? = some t) (hdj : ds[j]? = some d) :
    ∃ us ps, Parts (whole w) v us ps ∧ ps.length * 24 ≤ 140737488351232 ∧ ∀ i (h : i < ps.length), ps[i].length ≤ 140737488351232 := by
  have hr : reachBytes = 140737488351232 := by decide
  rcases top_slice ht (by rw [hn]; decide) hv h with ⟨rfl, rfl⟩ | ⟨elems, spare, flat, rfl, h1, h2, h3⟩
  · exact ⟨[], [], ⟨Sl.nil 1 _, rfl, fun i hi => by simp at hi⟩, by simp, fun i hi => by simp at hi⟩
  · rw [hn] at h2 h3
    have hlen := h2.len
    rw [Nat.mul_one] at hlen
    have hex : ∀ i, i < lenS v → ∃ u bs, flat[i]? = some u ∧ By (whole w) u bs ∧ bs.length ≤ 140737488351232 := by
      intro i hi
      obtain ⟨di, e1, e2⟩ := h3 i hi
      obtain ⟨u, bs, e3, e4, e5⟩ := Td.bytes he hb hn2 e2
      have e6 : flat[i]? = some u := by
        have := congrArg (fun l => l[0]?) e3
        simpa [List.getElem?_take, List.getElem?_drop] using this
      refine ⟨u, bs, e6, e4, ?_⟩
      rcases e5 with ⟨_, rfl⟩ | ⟨el, sp, rfl, e7⟩
      · simp
      · have hm : (el.length + sp.length) * P.bytesOf b ∈ DataW.weightsEach P ts ds := by
          refine DataW.weights_mem_each htj hdj _ ?_
          simp only [DataW.weights, ht, List.mem_cons, List.mem_append]
          exact .inr (.inl (weightsAll_mem e1 _ (by simp [DataW.weights, he])))
        have := List.all_eq_true.1 hsz _ hm
        rw [hB2, hr] at this
        simp at this
        omega
    have hf : ∃ f : Nat → Value × List UInt8, ∀ i, i < lenS v → flat[i]? = some (f i).1 ∧ By (whole w) (f i).1 (f i).2 ∧ (f i).2.length ≤ 140737488351232 := by
      refine ⟨fun i => if hi : i < lenS v then ((hex i hi).choose, (hex i hi).choose_spec.choose) else (.bool false, []), fun i hi => ?_⟩
      simp only [hi, dif_pos]
      exact (hex i hi).choose_spec.choose_spec
    obtain ⟨f, hf⟩ := hf
    refine ⟨flat, (List.range (lenS v)).map fun i => (f i).2, ⟨h2, by simp [hlen], fun i hi => ?_⟩, ?_, fun i hi => ?_⟩
    · simp at hi
      obtain ⟨k1, k2, k3⟩ := hf i hi
      exact ⟨_, k1, by simpa using k2⟩
    · have z := sized_slice hsz htj hdj ht
      rw [hB, hr] at z
      simp only [List.length_map, List.length_range]
      rw [← h1]
      omega
    · simp at hi ⊢
      exact (hf i hi).2.2
end Go.Proofs.Ytkidjjnmdpbcaaa.V
