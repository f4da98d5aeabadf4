/-
  No cell of these rows narrows 'for every input' (looked for: loops, veiled, ifaces, maps, wideKeys, modest, calm, conditions, laid).
  DERIVED. THE GIVEN ROWS OF THIS SEAT. 9 by the template 'for every input the law returns true; each argument reads behind the call as it read before'; 0 by the template 'total and deterministic' (their statements: YtkidjjnmdpbcaaaTotals.lean).
  GIVEN WITH THE SEED: the statements are not yours to turn. If you find one false, say at which input.
  Laid BY PROGRAM, IN A SANDBOX (cutbox-rows.mjs): the forced cells as the released guide's own fill.sh prints them over the translation 529aca0fea64425b… (all of the seat's roots in one cut). By AI agents, Wed Nov 11 2026. No macro, syntax, notation, axiom, sorry.
-/
import Derived.Test.YtkidjjnmdpbcaaaChecked
import GoSem.Claim
import GoSem.ClaimJoined
import GoSem.ClaimMapViews
import Derived.JoinedTies
import Derived.KernelRfl
namespace Go.Proofs.Ytkidjjnmdpbcaaa
/- THE CELL 'sum', in the pinned program and in every row, IS THE sha256 OF THE DUMP (.gsa) THAT YtkidjjnmdpbcaaaProg.lean LOADS. Nothing in Lean hashes anything: it is a label: what it is worth is what the hold of that sum in a sandbox is worth. -/
noncomputable def Try.pinned : Pinned := { name := "ytkidjjnmdpbcaaa", sum := "529aca0fea64425b0ad4e48c98a6174cfa49c0220e1c7c1c8bac6d9574041bd6", checked := Try.checked }
namespace Rows
def none {H : Type} : Left H := { results := [], args := [] }

/-- 'chancerylaw01.DerSizes': WHATEVER THE INPUT: true; the input reads as it did. -/
def derSizesSpec : ChangeSpec := { name := "derSizes", fn := fun _ => fun
  | [d] => { results := [.lit (.bool true)], args := [d] }
  | _ => none }
def derSizesRow : OpenClaim := { program := "ytkidjjnmdpbcaaa", sum := "529aca0fea64425b0ad4e48c98a6174cfa49c0220e1c7c1c8bac6d9574041bd6", func := "chancery/chancerylaw01.DerSizes", spec := "derSizes", apart := false }
def DerSizesSaid : Prop := derSizesRow.holds Try.pinned (OpenSpec.ofChange derSizesSpec)

/-- ITS FALSE NEIGHBOUR: 'it returns false'. Refute it at one input. -/
def derSizesWrong : ChangeSpec := { name := "derSizes", fn := fun _ => fun
  | [d] => { results := [.lit (.bool false)], args := [d] }
  | _ => none }
def DerSizesWrongFalsely : Prop := derSizesRow.holds Try.pinned (OpenSpec.ofChange derSizesWrong)

/-- 'chancerylaw01.DerPuts': WHATEVER THE INPUT: true; the input reads as it did. -/
def derPutsSpec : ChangeSpec := { name := "derPuts", fn := fun _ => fun
  | [d1, d2, d3] => { results := [.lit (.bool true)], args := [d1, d2, d3] }
  | _ => none }
def derPutsRow : OpenClaim := { program := "ytkidjjnmdpbcaaa", sum := "529aca0fea64425b0ad4e48c98a6174cfa49c0220e1c7c1c8bac6d9574041bd6", func := "chancery/chancerylaw01.DerPuts", spec := "derPuts", apart := false }
def DerPutsSaid : Prop := derPutsRow.holds Try.pinned (OpenSpec.ofChange derPutsSpec)

/-- ITS FALSE NEIGHBOUR: 'it returns false'. Refute it at one input. -/
def derPutsWrong : ChangeSpec := { name := "derPuts", fn := fun _ => fun
  | [d1, d2, d3] => { results := [.lit (.bool false)], args := [d1, d2, d3] }
  | _ => none }
def DerPutsWrongFalsely : Prop := derPutsRow.holds Try.pinned (OpenSpec.ofChange derPutsWrong)

/-- 'chancerylaw01.DerTakes': WHATEVER THE INPUT: true; the input reads as it did. -/
def derTakesSpec : ChangeSpec := { name := "derTakes", fn := fun _ => fun
  | [d] => { results := [.lit (.bool true)], args := [d] }
  | _ => none }
def derTakesRow : OpenClaim := { program := "ytkidjjnmdpbcaaa", sum := "529aca0fea64425b0ad4e48c98a6174cfa49c0220e1c7c1c8bac6d9574041bd6", func := "chancery/chancerylaw01.DerTakes", spec := "derTakes", apart := false }
def DerTakesSaid : Prop := derTakesRow.holds Try.pinned (OpenSpec.ofChange derTakesSpec)

/-- ITS FALSE NEIGHBOUR: 'it returns false'. Refute it at one input. -/
def derTakesWrong : ChangeSpec := { name := "derTakes", fn := fun _ => fun
  | [d] => { results := [.lit (.bool false)], args := [d] }
  | _ => none }
def DerTakesWrongFalsely : Prop := derTakesRow.holds Try.pinned (OpenSpec.ofChange derTakesWrong)

/-- 'chancerylaw01.DerBegins': WHATEVER THE INPUT: true; the input reads as it did. -/
def derBeginsSpec : ChangeSpec := { name := "derBegins", fn := fun _ => fun
  | [d1, d2] => { results := [.lit (.bool true)], args := [d1, d2] }
  | _ => none }
def derBeginsRow : OpenClaim := { program := "ytkidjjnmdpbcaaa", sum := "529aca0fea64425b0ad4e48c98a6174cfa49c0220e1c7c1c8bac6d9574041bd6", func := "chancery/chancerylaw01.DerBegins", spec := "derBegins", apart := false }
def DerBeginsSaid : Prop := derBeginsRow.holds Try.pinned (OpenSpec.ofChange derBeginsSpec)

/-- ITS FALSE NEIGHBOUR: 'it returns false'. Refute it at one input. -/
def derBeginsWrong : ChangeSpec := { name := "derBegins", fn := fun _ => fun
  | [d1, d2] => { results := [.lit (.bool false)], args := [d1, d2] }
  | _ => none }
def DerBeginsWrongFalsely : Prop := derBeginsRow.holds Try.pinned (OpenSpec.ofChange derBeginsWrong)

/-- 'chancerylaw01.DerChecks': WHATEVER THE INPUT: true; the input reads as it did. -/
def derChecksSpec : ChangeSpec := { name := "derChecks", fn := fun _ => fun
  | [d1, d2] => { results := [.lit (.bool true)], args := [d1, d2] }
  | _ => none }
def derChecksRow : OpenClaim := { program := "ytkidjjnmdpbcaaa", sum := "529aca0fea64425b0ad4e48c98a6174cfa49c0220e1c7c1c8bac6d9574041bd6", func := "chancery/chancerylaw01.DerChecks", spec := "derChecks", unfollowed := true, recurses := true, apart := false }
def DerChecksSaid : Prop := derChecksRow.holds Try.pinned (OpenSpec.ofChange derChecksSpec)

/-- ITS FALSE NEIGHBOUR: 'it returns false'. Refute it at one input. -/
def derChecksWrong : ChangeSpec := { name := "derChecks", fn := fun _ => fun
  | [d1, d2] => { results := [.lit (.bool false)], args := [d1, d2] }
  | _ => none }
def DerChecksWrongFalsely : Prop := derChecksRow.holds Try.pinned (OpenSpec.ofChange derChecksWrong)

/-- 'chancerylaw01.DerAlls': WHATEVER THE INPUT: true; the input reads as it did. -/
def derAllsSpec : ChangeSpec := { name := "derAlls", fn := fun _ => fun
  | [d1, d2] => { results := [.lit (.bool true)], args := [d1, d2] }
  | _ => none }
def derAllsRow : OpenClaim := { program := "ytkidjjnmdpbcaaa", sum := "529aca0fea64425b0ad4e48c98a6174cfa49c0220e1c7c1c8bac6d9574041bd6", func := "chancery/chancerylaw01.DerAlls", spec := "derAlls", unfollowed := true, recurses := true, apart := false }
def DerAllsSaid : Prop := derAllsRow.holds Try.pinned (OpenSpec.ofChange derAllsSpec)

/-- ITS FALSE NEIGHBOUR: 'it returns false'. Refute it at one input. -/
def derAllsWrong : ChangeSpec := { name := "derAlls", fn := fun _ => fun
  | [d1, d2] => { results := [.lit (.bool false)], args := [d1, d2] }
  | _ => none }
def DerAllsWrongFalsely : Prop := derAllsRow.holds Try.pinned (OpenSpec.ofChange derAllsWrong)

/-- 'chancerylaw01.DerBack': WHATEVER THE INPUT: true; the input reads as it did. -/
def derBackSpec : ChangeSpec := { name := "derBack", fn := fun _ => fun
  | [d1, d2] => { results := [.lit (.bool true)], args := [d1, d2] }
  | _ => none }
def derBackRow : OpenClaim := { program := "ytkidjjnmdpbcaaa", sum := "529aca0fea64425b0ad4e48c98a6174cfa49c0220e1c7c1c8bac6d9574041bd6", func := "chancery/chancerylaw01.DerBack", spec := "derBack", unfollowed := true, recurses := true, apart := false }
def DerBackSaid : Prop := derBackRow.holds Try.pinned (OpenSpec.ofChange derBackSpec)

/-- ITS FALSE NEIGHBOUR: 'it returns false'. Refute it at one input. -/
def derBackWrong : ChangeSpec := { name := "derBack", fn := fun _ => fun
  | [d1, d2] => { results := [.lit (.bool false)], args := [d1, d2] }
  | _ => none }
def DerBackWrongFalsely : Prop := derBackRow.holds Try.pinned (OpenSpec.ofChange derBackWrong)

/-- 'chancerylaw01.DerAgain': WHATEVER THE INPUT: true; the input reads as it did. -/
def derAgainSpec : ChangeSpec := { name := "derAgain", fn := fun _ => fun
  | [d] => { results := [.lit (.bool true)], args := [d] }
  | _ => none }
def derAgainRow : OpenClaim := { program := "ytkidjjnmdpbcaaa", sum := "529aca0fea64425b0ad4e48c98a6174cfa49c0220e1c7c1c8bac6d9574041bd6", func := "chancery/chancerylaw01.DerAgain", spec := "derAgain", unfollowed := true, recurses := true, apart := false }
def DerAgainSaid : Prop := derAgainRow.holds Try.pinned (OpenSpec.ofChange derAgainSpec)

/-- ITS FALSE NEIGHBOUR: 'it returns false'. Refute it at one input. -/
def derAgainWrong : ChangeSpec := { name := "derAgain", fn := fun _ => fun
  | [d] => { results := [.lit (.bool false)], args := [d] }
  | _ => none }
def DerAgainWrongFalsely : Prop := derAgainRow.holds Try.pinned (OpenSpec.ofChange derAgainWrong)

/-- 'chancerylaw01.DerSets': WHATEVER THE INPUT: true; the input reads as it did. -/
def derSetsSpec : ChangeSpec := { name := "derSets", fn := fun _ => fun
  | [d] => { results := [.lit (.bool true)], args := [d] }
  | _ => none }
def derSetsRow : OpenClaim := { program := "ytkidjjnmdpbcaaa", sum := "529aca0fea64425b0ad4e48c98a6174cfa49c0220e1c7c1c8bac6d9574041bd6", func := "chancery/chancerylaw01.DerSets", spec := "derSets", unfollowed := true, recurses := true, apart := false }
def DerSetsSaid : Prop := derSetsRow.holds Try.pinned (OpenSpec.ofChange derSetsSpec)

/-- ITS FALSE NEIGHBOUR: 'it returns false'. Refute it at one input. -/
def derSetsWrong : ChangeSpec := { name := "derSets", fn := fun _ => fun
  | [d] => { results := [.lit (.bool false)], args := [d] }
  | _ => none }
def DerSetsWrongFalsely : Prop := derSetsRow.holds Try.pinned (OpenSpec.ofChange derSetsWrong)

/- THE SECOND FORM. 'bulk': how many values and letters a reading holds, each counted each time it is reached (what is shared counts as often as it is met; a slice's spare places count too). A statement '..UptoSaid' is the law's where the arguments, and the package variables that the reading takes, are together of bulk at most 1048576: NARROWER than '..Said'. Prove '..Said' where nothing that the law and all that it calls make is longer than what came in: it says more and counts as full. Else prove '..UptoSaid'. A law counts once. -/
mutual
def uptoBulk {H : Type} : DataW H → Nat
  | .lit (.string bytes) => bytes.length + 1
  | .lit _ => 1
  | .nil => 1
  | .ptr d => uptoBulk d + 1
  | .slice elems spare => uptoBulkAll elems + uptoBulkAll spare + 1
  | .agg parts => uptoBulkAll parts + 1
  | .iface _ d => uptoBulk d + 1
  | .map entries => uptoBulkEntries entries + 1
  | .held _ => 1
def uptoBulkAll {H : Type} : List (DataW H) → Nat
  | [] => 0
  | d :: r => uptoBulk d + uptoBulkAll r
def uptoBulkEntries {H : Type} : List (Lit × DataW H) → Nat
  | [] => 0
  | x :: r => uptoBulkEntry x + uptoBulkEntries r
def uptoBulkEntry {H : Type} : Lit × DataW H → Nat
  | (.string bytes, d) => bytes.length + uptoBulk d + 1
  | (_, d) => uptoBulk d + 1
 end
def uptoSmall : (H : Type) → List (DataW H) → Bool := fun _ ds => decide (uptoBulkAll ds ≤ 1048576)
def OpenSpec.upto (s : _root_.Go.ChangeSpec) : _root_.Go.OpenSpec := { _root_.Go.OpenSpec.ofChange s with cond := some uptoSmall }

/-- 'chancerylaw01.DerSizes', WHERE WHAT IT READS IS OF BULK AT MOST 1048576: true; the input reads as it did. -/
def derSizesUptoRow : OpenClaim := { program := "ytkidjjnmdpbcaaa", sum := "529aca0fea64425b0ad4e48c98a6174cfa49c0220e1c7c1c8bac6d9574041bd6", func := "chancery/chancerylaw01.DerSizes", spec := "derSizes", apart := false, narrowed := true }
def DerSizesUptoSaid : Prop := derSizesUptoRow.holds Try.pinned (OpenSpec.upto derSizesSpec)

/-- 'chancerylaw01.DerPuts', WHERE WHAT IT READS IS OF BULK AT MOST 1048576: true; the input reads as it did. -/
def derPutsUptoRow : OpenClaim := { program := "ytkidjjnmdpbcaaa", sum := "529aca0fea64425b0ad4e48c98a6174cfa49c0220e1c7c1c8bac6d9574041bd6", func := "chancery/chancerylaw01.DerPuts", spec := "derPuts", apart := false, narrowed := true }
def DerPutsUptoSaid : Prop := derPutsUptoRow.holds Try.pinned (OpenSpec.upto derPutsSpec)

/-- 'chancerylaw01.DerTakes', WHERE WHAT IT READS IS OF BULK AT MOST 1048576: true; the input reads as it did. -/
def derTakesUptoRow : OpenClaim := { program := "ytkidjjnmdpbcaaa", sum := "529aca0fea64425b0ad4e48c98a6174cfa49c0220e1c7c1c8bac6d9574041bd6", func := "chancery/chancerylaw01.DerTakes", spec := "derTakes", apart := false, narrowed := true }
def DerTakesUptoSaid : Prop := derTakesUptoRow.holds Try.pinned (OpenSpec.upto derTakesSpec)

/-- 'chancerylaw01.DerBegins', WHERE WHAT IT READS IS OF BULK AT MOST 1048576: true; the input reads as it did. -/
def derBeginsUptoRow : OpenClaim := { program := "ytkidjjnmdpbcaaa", sum := "529aca0fea64425b0ad4e48c98a6174cfa49c0220e1c7c1c8bac6d9574041bd6", func := "chancery/chancerylaw01.DerBegins", spec := "derBegins", apart := false, narrowed := true }
def DerBeginsUptoSaid : Prop := derBeginsUptoRow.holds Try.pinned (OpenSpec.upto derBeginsSpec)

/-- 'chancerylaw01.DerChecks', WHERE WHAT IT READS IS OF BULK AT MOST 1048576: true; the input reads as it did. -/
def derChecksUptoRow : OpenClaim := { program := "ytkidjjnmdpbcaaa", sum := "529aca0fea64425b0ad4e48c98a6174cfa49c0220e1c7c1c8bac6d9574041bd6", func := "chancery/chancerylaw01.DerChecks", spec := "derChecks", unfollowed := true, recurses := true, apart := false, narrowed := true }
def DerChecksUptoSaid : Prop := derChecksUptoRow.holds Try.pinned (OpenSpec.upto derChecksSpec)

/-- 'chancerylaw01.DerAlls', WHERE WHAT IT READS IS OF BULK AT MOST 1048576: true; the input reads as it did. -/
def derAllsUptoRow : OpenClaim := { program := "ytkidjjnmdpbcaaa", sum := "529aca0fea64425b0ad4e48c98a6174cfa49c0220e1c7c1c8bac6d9574041bd6", func := "chancery/chancerylaw01.DerAlls", spec := "derAlls", unfollowed := true, recurses := true, apart := false, narrowed := true }
def DerAllsUptoSaid : Prop := derAllsUptoRow.holds Try.pinned (OpenSpec.upto derAllsSpec)

/-- 'chancerylaw01.DerBack', WHERE WHAT IT READS IS OF BULK AT MOST 1048576: true; the input reads as it did. -/
def derBackUptoRow : OpenClaim := { program := "ytkidjjnmdpbcaaa", sum := "529aca0fea64425b0ad4e48c98a6174cfa49c0220e1c7c1c8bac6d9574041bd6", func := "chancery/chancerylaw01.DerBack", spec := "derBack", unfollowed := true, recurses := true, apart := false, narrowed := true }
def DerBackUptoSaid : Prop := derBackUptoRow.holds Try.pinned (OpenSpec.upto derBackSpec)

/-- 'chancerylaw01.DerAgain', WHERE WHAT IT READS IS OF BULK AT MOST 1048576: true; the input reads as it did. -/
def derAgainUptoRow : OpenClaim := { program := "ytkidjjnmdpbcaaa", sum := "529aca0fea64425b0ad4e48c98a6174cfa49c0220e1c7c1c8bac6d9574041bd6", func := "chancery/chancerylaw01.DerAgain", spec := "derAgain", unfollowed := true, recurses := true, apart := false, narrowed := true }
def DerAgainUptoSaid : Prop := derAgainUptoRow.holds Try.pinned (OpenSpec.upto derAgainSpec)

/-- 'chancerylaw01.DerSets', WHERE WHAT IT READS IS OF BULK AT MOST 1048576: true; the input reads as it did. -/
def derSetsUptoRow : OpenClaim := { program := "ytkidjjnmdpbcaaa", sum := "529aca0fea64425b0ad4e48c98a6174cfa49c0220e1c7c1c8bac6d9574041bd6", func := "chancery/chancerylaw01.DerSets", spec := "derSets", unfollowed := true, recurses := true, apart := false, narrowed := true }
def DerSetsUptoSaid : Prop := derSetsUptoRow.holds Try.pinned (OpenSpec.upto derSetsSpec)

end Rows
end Go.Proofs.Ytkidjjnmdpbcaaa
