/- Bytes that come in: how many. -/
import Derived.Test.YtdeihgcgglhhcaaPdVL
set_option linter.unusedSimpArgs false
set_option linter.unusedVariables false
namespace Go.Proofs.Ytdeihgcgglhhcaa.V
open Go.RowKit Go.ChangeShapes Go.WideShapes Go.ChangeAt
theorem top_bytesL {H : Type} {enc : TypeId × Value → H} {P : Program} {w : World} {r : Reach} {base : Nat} {v : Value} {ps : List MemPlace} {t e : TypeId} {d : DataW H} {ts : List TypeId} {ds : List (DataW H)} (j : Nat) (ht : P.underlying t = some (.slice e)) (he : P.underlying e = some (.int .u8)) (hn : P.cellsOf e = 1) (hB : P.bytesOf e = 1)
    (hv : Value.okWide P w r base t v) (h : DataW.Trod enc P w 0 (fun _ => true) true t v d ps) (hsz : (DataW.weightsEach P ts ds).all (· ≤ reachBytes) = true) (htj : ts[j]? = some t) (hdj : ds[j]? = some d) : ∃ bs, By (whole w) v bs ∧ bs.length ≤ 140737488351232 := by
  obtain ⟨bs, hb, ⟨_, rfl⟩ | ⟨elems, spare, rfl, hl⟩⟩ := top_bytes ht he hn hv h
  · exact ⟨[], hb, by simp⟩
  · have := top_len hsz htj hdj ht hB
    exact ⟨bs, hb, by omega⟩
end Go.Proofs.Ytdeihgcgglhhcaa.V
