/- DerAgain: what comes in. -/
import Derived.Test.YtkidjjnmdpbcaaaPgW
import Derived.Test.YtkidjjnmdpbcaaaPgCT
set_option linter.unusedSimpArgs false
set_option linter.unusedVariables false
namespace Go.Proofs.Ytkidjjnmdpbcaaa.V
open Go.RowKit Go.ChangeShapes Go.WideShapes Go.ChangeAt
theorem derAgain_walk {H : Type} {enc : TypeId × Value → H} {W : World} {base : Nat} {v0 : Value} {d0 : DataW H} {p0 : List MemPlace}
    (hv0 : Value.okWide Try.prog W .any base 25 v0) (h0 : DataW.Trod enc Try.prog W 0 (fun _ => true) true 25 v0 d0 p0)
    (hsz : (DataW.weightsEach Try.prog [25] [d0]).all (· ≤ reachBytes) = true) (hk : Rows.uptoBulkAll [d0] ≤ 1048576) :
    HC Try.prog 10 #[v0] (whole W) fun v G' => v = .bool true ∧ (whole W).le G' := by
  obtain ⟨bs, hb, hl⟩ := top_bytesU Try.underlying25 Try.underlying5 (by kernel_rfl) hv0 h0 (by simp) hk
  exact law10 v0 bs _ hb hl
end Go.Proofs.Ytkidjjnmdpbcaaa.V
