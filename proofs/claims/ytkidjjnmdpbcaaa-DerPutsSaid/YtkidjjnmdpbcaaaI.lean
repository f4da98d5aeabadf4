/- DerPuts: the arguments. -/
import Derived.Test.YtkidjjnmdpbcaaaH
import Derived.Test.YtkidjjnmdpbcaaaCF
set_option linter.unusedSimpArgs false
set_option linter.unusedVariables false
namespace Go.Proofs.Ytkidjjnmdpbcaaa.V
open Go.RowKit Go.ChangeShapes Go.WideShapes
theorem derPuts_walk {H : Type} {enc : TypeId × Value → H} {W : World} {base : Nat} {v0 v1 v2 : Value} {d0 d1 d2 : DataW H} {p0 p1 p2 : List MemPlace}
    (hv0 : Value.okWide Try.prog W .any base 25 v0) (h0 : DataW.Trod enc Try.prog W 0 (fun _ => true) true 25 v0 d0 p0)
    (hv1 : Value.okWide Try.prog W .any base 3 v1) (h1 : DataW.Trod enc Try.prog W 0 (fun _ => true) true 3 v1 d1 p1)
    (hv2 : Value.okWide Try.prog W .any base 26 v2) (h2 : DataW.Trod enc Try.prog W 0 (fun _ => true) true 26 v2 d2 p2)
    (hsz : (DataW.weightsEach Try.prog [25, 3, 26] [d0, d1, d2]).all (· ≤ reachBytes) = true) :
    HC Try.prog 4 #[v0, v1, v2] (whole W) fun v G' => v = .bool true ∧ (whole W).le G' := by
  obtain ⟨bs, hb, hl⟩ := top_bytesL 0 Try.underlying25 Try.underlying5 (by kernel_rfl) (by kernel_rfl) hv0 h0 hsz rfl rfl
  obtain ⟨t, rfl, ht⟩ := top_int Try.underlying3 hv1 h1
  obtain ⟨t0, t1⟩ := wf_i64 ht
  obtain ⟨us, ps, hp, hpl, hps⟩ := top_partsL 2 Try.underlying26 Try.underlying25 Try.underlying5 (by kernel_rfl) (by kernel_rfl) (by kernel_rfl) (by kernel_rfl) hv2 h2 hsz rfl rfl
  exact law4 v0 v2 us ps bs t _ hb hp t0 t1 hl hpl hps
end Go.Proofs.Ytkidjjnmdpbcaaa.V
