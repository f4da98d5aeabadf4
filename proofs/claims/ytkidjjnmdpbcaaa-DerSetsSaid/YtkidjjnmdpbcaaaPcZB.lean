/- DerAlls. -/
import Derived.Test.YtkidjjnmdpbcaaaPcU
import Derived.Test.YtkidjjnmdpbcaaaPcW
import Derived.Test.YtkidjjnmdpbcaaaPcE
import Derived.Test.YtkidjjnmdpbcaaaPcVL
import Derived.Test.YtkidjjnmdpbcaaaRows
import Derived.Test.YtkidjjnmdpbcaaaPcCG
set_option linter.unusedSimpArgs false
set_option linter.unusedVariables false
namespace Go.Proofs.Ytkidjjnmdpbcaaa.V
open Go.RowKit Go.ChangeShapes Go.WideShapes
open Classical in
/-- All that is known but some blocks. -/
noncomputable def offP (p : Nat → Prop) (G : GH) : GH := fun c => if p c then none else G c
theorem offP_none {p : Nat → Prop} {G : GH} {c : Nat} (h : p c) : offP p G c = none := by unfold offP; rw [if_pos h]
theorem offP_ne {p : Nat → Prop} {G : GH} {c : Nat} (h : ¬ p c) : offP p G c = G c := by unfold offP; rw [if_neg h]
theorem offP_le (p : Nat → Prop) (G : GH) : (offP p G).le G := fun c o h => by
  by_cases e : p c
  · rw [offP_none e] at h; cases h
  · rw [offP_ne e] at h; exact h
theorem le_offP {B G : GH} {p : Nat → Prop} (h : B.le G) (hn : ∀ c, p c → B c = none) : B.le (offP p G) := fun c o hc => by
  by_cases e : p c
  · rw [hn c e] at hc; cases hc
  · rw [offP_ne e]; exact h c o hc
theorem Own.rebase {n : Nat} {G0 G1 G : GH} {u : Value} {xs : List Value} (h : Own n G0 G u xs) (hn : ∀ c, blkS u = some c → G1 c = none) : Own n G1 G u xs := by
  rcases h with h | ⟨b, sp, h0, hb⟩
  · exact .inl h
  · exact .inr ⟨b, sp, hn b hb.blk, hb⟩
end Go.Proofs.Ytkidjjnmdpbcaaa.V
