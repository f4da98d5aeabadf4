/- Pointers: nil or not, fields. -/
import Derived.Test.YtdeihgcgglhhcaaPeVL
set_option linter.unusedSimpArgs false
set_option linter.unusedVariables false
namespace Go.Proofs.Ytdeihgcgglhhcaa.V
open Go.RowKit
section
variable {P : Program} {E : Env} {K : St → Prop} {r : List Stp} {dd : Option Nat} {L : SL} {A : AL} {G : GH}
theorem s_nilck {d : Nat} {x : Operand} {a : Addr} (h : vops P E r K (S (.set d (.pointer (some a)) L) A G)) (hx : evo L x = some (.pointer (some a)) := by with_unfolding_all rfl) : vops P E (⟨none, dd, .pure d .nilck [x]⟩ :: r) K (S L A G) := o_pure (vs := [.pointer (some a)]) (by simp only [evs, hx]) rfl h
theorem s_fptr0 {d o b : Nat} {x : Operand} (h : vops P E r K (S (.set d (.pointer (some ⟨b, o, none⟩)) L) A G)) (hx : evo L x = some (.pointer (some ⟨b, 0, none⟩)) := by with_unfolding_all rfl) : vops P E (⟨none, dd, .pure d (.fptr o) [x]⟩ :: r) K (S L A G) :=
  o_pure (vs := [.pointer (some ⟨b, 0, none⟩)]) (by simp only [evs, hx]) (by simp only [pureV, Nat.zero_add]) h
end
end Go.Proofs.Ytdeihgcgglhhcaa.V
