/- All elements that stand one behind the other. -/
import Derived.Test.YtkidjjnmdpbcaaaPcP
import Derived.Test.YtkidjjnmdpbcaaaPcCD
import Derived.Test.YtkidjjnmdpbcaaaPcVN
import Derived.Test.YtkidjjnmdpbcaaaPcVL
import Derived.Test.YtkidjjnmdpbcaaaProg
import Derived.KernelRfl
import Derived.Test.YtkidjjnmdpbcaaaPcCG
set_option linter.unusedSimpArgs false
set_option linter.unusedVariables false
namespace Go.Proofs.Ytkidjjnmdpbcaaa.V
open Go.RowKit Go.ChangeShapes Go.WideShapes
/-- Elements in memory, one behind the other, each content one's own. -/
def RowsO (G0 G : GH) (bs : List UInt8) (k : Nat) (xs : List Value) : Prop := ∃ wf : Nat → Value, xs.length = 2 * k ∧ (∀ i, i < k → (xs.drop (i * 2)).take 2 = [.int .i64 (rowK bs i), wf i] ∧ Own 1 G0 G (wf i) ((rowD bs i).map bv)) ∧
  ∀ i j, i < j → j < k → ∀ c, blkS (wf j) = some c → blkS (wf i) ≠ some c
theorem RowsO.le {G0 G G' : GH} {bs : List UInt8} {k : Nat} {xs : List Value} (h : RowsO G0 G bs k xs) (hl : G.le G') : RowsO G0 G' bs k xs :=
  let ⟨wf, h1, h2, h3⟩ := h; ⟨wf, h1, fun i hi => ⟨(h2 i hi).1, (h2 i hi).2.le hl⟩, h3⟩
theorem RowsO.base {G0 G1 G : GH} {bs : List UInt8} {k : Nat} {xs : List Value} (h : RowsO G1 G bs k xs) (hl : G0.le G1) : RowsO G0 G bs k xs :=
  let ⟨wf, h1, h2, h3⟩ := h; ⟨wf, h1, fun i hi => ⟨(h2 i hi).1, (h2 i hi).2.base hl⟩, h3⟩
theorem RowsO.nil (G0 G : GH) (bs : List UInt8) : RowsO G0 G bs 0 [] := ⟨fun _ => .slice none 0 0, rfl, fun i hi => absurd hi (Nat.not_lt_zero _), fun i j _ hj => absurd hj (Nat.not_lt_zero _)⟩
theorem RowsO.snoc {G0 G G' : GH} {bs : List UInt8} {k : Nat} {xs : List Value} {w : Value} (h : RowsO G0 G bs k xs) (hl : G.le G') (hw : Own 1 G0 G' w ((rowD bs k).map bv)) (hn : ∀ c, blkS w = some c → G c = none) : RowsO G0 G' bs (k + 1) (xs ++ [.int .i64 (rowK bs k), w]) := by
  obtain ⟨wf, h1, h2, h3⟩ := h
  refine ⟨fun i => if i < k then wf i else w, by simp [h1]; omega, fun i hi => ?_, fun i j hij hj c hc => ?_⟩
  · by_cases e : i < k
    · obtain ⟨e1, e2⟩ := h2 i e
      simp only [e, if_true]
      refine ⟨?_, e2.le hl⟩
      rw [List.drop_append_of_le_length (by omega), List.take_append_of_le_length (by rw [List.length_drop]; omega)]; exact e1
    · obtain rfl : i = k := by omega
      simp only [e, if_false]
      refine ⟨?_, hw⟩
      rw [List.drop_append, List.drop_eq_nil_of_le (by omega), h1, show i * 2 - 2 * i = 0 by omega]; rfl
  · have hi : i < k := by omega
    simp only [hi, if_true]
    by_cases e : j < k
    · simp only [e, if_true] at hc
      exact h3 i j hij e c hc
    · simp only [e, if_false] at hc
      intro hi2
      obtain ⟨o, ho, _⟩ := (h2 i hi).2.at_ hi2
      rw [hn c hc] at ho; cases ho
end Go.Proofs.Ytkidjjnmdpbcaaa.V
