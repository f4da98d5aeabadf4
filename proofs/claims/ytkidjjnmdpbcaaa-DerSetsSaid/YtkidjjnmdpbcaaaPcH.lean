/- DerPuts. -/
import Derived.Test.YtkidjjnmdpbcaaaPcG
set_option linter.unusedSimpArgs false
set_option linter.unusedVariables false
namespace Go.Proofs.Ytkidjjnmdpbcaaa.V
open Go.RowKit Go.ChangeShapes Go.WideShapes
theorem Lent.own {G0 G : GH} {u : Value} {bs : List UInt8} (h : Lent G0 G u bs) : Own 1 G0 G u (bs.map bv) := let ⟨b, sp, h0, h⟩ := h; .inr ⟨b, _, h0, h⟩
theorem Lent.blk_in {G0 G : GH} {u : Value} {bs : List UInt8} (h : Lent G0 G u bs) {b : Nat} (hb : blkS u = some b) : ∃ o, G b = some o := by
  obtain ⟨b', sp, h0, k⟩ := h
  rw [k.blk] at hb
  cases hb
  obtain ⟨q, len, cap, cs, e, fr, rfl, hG, _⟩ := k
  exact ⟨_, hG⟩
theorem Lents.nil (G0 G : GH) : Lents G0 G [] [] := ⟨rfl, fun i h => by simp at h⟩
theorem Lents.snoc {G0 G : GH} {us : List Value} {ps : List (List UInt8)} {i : Nat} {w : Value} (h : Lents G0 G us (ps.take i)) (hi : i < ps.length) (hw : Lent G0 G w ps[i]) : Lents G0 G (us ++ [w]) (ps.take (i + 1)) := by
  have h1 : us.length = i := by rw [h.1, List.length_take]; omega
  refine ⟨by rw [List.length_append, h1, List.length_take]; simp; omega, fun j hj => ?_⟩
  rw [List.length_take] at hj
  by_cases hji : j < i
  · obtain ⟨w', e, k⟩ := h.2 j (by rw [List.length_take]; omega)
    refine ⟨w', by rw [List.getElem?_append_left (by omega)]; exact e, ?_⟩
    rw [List.getElem_take] at k ⊢; exact k
  · obtain rfl : j = i := by omega
    refine ⟨w, by rw [List.getElem?_append_right (by omega), h1]; simp, ?_⟩
    rw [List.getElem_take]; exact hw
end Go.Proofs.Ytkidjjnmdpbcaaa.V
