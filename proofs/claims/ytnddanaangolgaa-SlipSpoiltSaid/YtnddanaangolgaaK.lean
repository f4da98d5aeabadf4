/- SlipPuts: the arguments. -/
import Derived.Test.YtnddanaangolgaaJ
set_option linter.unusedSimpArgs false
set_option linter.unusedVariables false
namespace Go.Proofs.Ytnddanaangolgaa.V
open Go.RowKit Go.ChangeShapes Go.WideShapes
theorem top_slip {H : Type} {enc : TypeId × Value → H} {W : World} {r : Reach} {base : Nat} {v : Value} {d : DataW H} {ps : List MemPlace} {ts : List TypeId} {ds : List (DataW H)} (j : Nat) (hv : Value.okWide Try.prog W r base 33 v) (h : DataW.Trod enc Try.prog W 0 (fun _ => true) true 33 v d ps)
    (hsz : (DataW.weightsEach Try.prog ts ds).all (· ≤ reachBytes) = true) (htj : ts[j]? = some 33) (hdj : ds[j]? = some d) : ∃ k w bs, v = .agg #[.int .i64 k, w] ∧ By (whole W) w bs ∧ bs.length ≤ 140737488351232 := by
  obtain ⟨cs, rfl, h1, dd, rfl, h2, h3⟩ := top_struct Try.underlying33 hv h
  have hc : Try.prog.cellsOf 33 = 2 := by kernel_rfl
  have hc3 : Try.prog.cellsOf 3 = 1 := by kernel_rfl
  have hc25 : Try.prog.cellsOf 22 = 1 := by kernel_rfl
  have hr : reachBytes = 140737488351232 := by decide
  have hB : Try.prog.bytesOf 5 = 1 := by kernel_rfl
  rw [hc] at h1
  obtain ⟨l⟩ := cs
  obtain ⟨a, b, rfl⟩ : ∃ a b, l = [a, b] := by
    match l, h1 with
    | [a, b], _ => exact ⟨a, b, rfl⟩
  obtain ⟨d0, _, e0⟩ := h3 0 _ rfl
  obtain ⟨d1, g1, e1⟩ := h3 1 _ rfl
  simp only [hc3, hc25] at e0 e1
  obtain ⟨n, hn, _⟩ := Td.int Try.underlying3 e0
  obtain ⟨u, bs, hu, hb, hcase⟩ := Td.bytes Try.underlying22 Try.underlying5 (by kernel_rfl) e1
  have i0 : a = .int .i64 n := by simpa using hn
  have i1 : b = u := by simpa using hu
  subst i0 i1
  refine ⟨n, _, bs, rfl, hb, ?_⟩
  rcases hcase with ⟨_, rfl⟩ | ⟨el, sp, rfl, e7⟩
  · simp
  · have hm : (el.length + sp.length) * Try.prog.bytesOf 5 ∈ DataW.weightsEach Try.prog ts ds := by
      refine DataW.weights_mem_each htj hdj _ ?_
      simp only [DataW.weights, Try.underlying33]
      exact DataW.weights_mem_each (j := 1) rfl g1 _ (by simp [DataW.weights, Try.underlying22])
    have := List.all_eq_true.1 hsz _ hm
    rw [hB, hr] at this
    simp at this
    omega
theorem slipPuts_walk {H : Type} {enc : TypeId × Value → H} {W : World} {base : Nat} {v0 v1 : Value} {d0 d1 : DataW H} {p0 p1 : List MemPlace}
    (hv0 : Value.okWide Try.prog W .any base 22 v0) (h0 : DataW.Trod enc Try.prog W 0 (fun _ => true) true 22 v0 d0 p0)
    (hv1 : Value.okWide Try.prog W .any base 33 v1) (h1 : DataW.Trod enc Try.prog W 0 (fun _ => true) true 33 v1 d1 p1)
    (hsz : (DataW.weightsEach Try.prog [22, 33] [d0, d1]).all (· ≤ reachBytes) = true) :
    HC Try.prog 6 #[v0, v1] (whole W) fun v G' => v = .bool true ∧ (whole W).le G' := by
  obtain ⟨bs, hb, hl⟩ := top_bytesL 0 Try.underlying22 Try.underlying5 (by kernel_rfl) (by kernel_rfl) hv0 h0 hsz rfl rfl
  obtain ⟨k, w, d, rfl, hw, hl2⟩ := top_slip 1 hv1 h1 hsz rfl rfl
  exact law6 v0 w bs d k _ hb hw hl hl2
end Go.Proofs.Ytnddanaangolgaa.V
