/-
  No cell of these rows narrows 'for every input' (looked for: loops, veiled, ifaces, maps, wideKeys, modest, calm, conditions, laid).
  DERIVED. THE GIVEN ROWS OF THIS SEAT. 7 by the template 'for every input the law returns true; each argument reads behind the call as it read before'; 0 by the template 'total and deterministic' (their statements: YtnddanaangolgaaTotals.lean).
  GIVEN WITH THE SEED: the statements are not yours to turn. If you find one false, say at which input.
  Laid BY PROGRAM, IN A SANDBOX (cutbox-rows.mjs): the forced cells as the released guide's own fill.sh prints them over the translation 55cb7f054ee4d63c… (all of the seat's roots in one cut). By AI agents, Wed Nov 11 2026. No macro, syntax, notation, axiom, sorry.
-/
import Derived.Test.YtnddanaangolgaaChecked
import GoSem.Claim
import GoSem.ClaimJoined
import GoSem.ClaimMapViews
import Derived.JoinedTies
import Derived.KernelRfl
namespace Go.Proofs.Ytnddanaangolgaa
/- THE CELL 'sum', in the pinned program and in every row, IS THE sha256 OF THE DUMP (.gsa) THAT YtnddanaangolgaaProg.lean LOADS. Nothing in Lean hashes anything: it is a label: what it is worth is what the hold of that sum in a sandbox is worth. -/
noncomputable def Try.pinned : Pinned := { name := "ytnddanaangolgaa", sum := "55cb7f054ee4d63c12cd407a1eb4e6c86d74b3c5822e0bcf8cee5ee55e14e755", checked := Try.checked }
namespace Rows
def none {H : Type} : Left H := { results := [], args := [] }

/-- 'chancerylaw09.SlipLaid': WHATEVER THE INPUT: true; the input reads as it did. -/
def slipLaidSpec : ChangeSpec := { name := "slipLaid", fn := fun _ => fun
  | [d1, d2, d3] => { results := [.lit (.bool true)], args := [d1, d2, d3] }
  | _ => none }
def slipLaidRow : OpenClaim := { program := "ytnddanaangolgaa", sum := "55cb7f054ee4d63c12cd407a1eb4e6c86d74b3c5822e0bcf8cee5ee55e14e755", func := "chancery/chancerylaw09.SlipLaid", spec := "slipLaid", apart := false }
def SlipLaidSaid : Prop := slipLaidRow.holds Try.pinned (OpenSpec.ofChange slipLaidSpec)

/-- ITS FALSE NEIGHBOUR: 'it returns false'. Refute it at one input. -/
def slipLaidWrong : ChangeSpec := { name := "slipLaid", fn := fun _ => fun
  | [d1, d2, d3] => { results := [.lit (.bool false)], args := [d1, d2, d3] }
  | _ => none }
def SlipLaidWrongFalsely : Prop := slipLaidRow.holds Try.pinned (OpenSpec.ofChange slipLaidWrong)

/-- 'chancerylaw09.SlipSums': WHATEVER THE INPUT: true; the input reads as it did. -/
def slipSumsSpec : ChangeSpec := { name := "slipSums", fn := fun _ => fun
  | [d1, d2, d3] => { results := [.lit (.bool true)], args := [d1, d2, d3] }
  | _ => none }
def slipSumsRow : OpenClaim := { program := "ytnddanaangolgaa", sum := "55cb7f054ee4d63c12cd407a1eb4e6c86d74b3c5822e0bcf8cee5ee55e14e755", func := "chancery/chancerylaw09.SlipSums", spec := "slipSums", apart := false }
def SlipSumsSaid : Prop := slipSumsRow.holds Try.pinned (OpenSpec.ofChange slipSumsSpec)

/-- ITS FALSE NEIGHBOUR: 'it returns false'. Refute it at one input. -/
def slipSumsWrong : ChangeSpec := { name := "slipSums", fn := fun _ => fun
  | [d1, d2, d3] => { results := [.lit (.bool false)], args := [d1, d2, d3] }
  | _ => none }
def SlipSumsWrongFalsely : Prop := slipSumsRow.holds Try.pinned (OpenSpec.ofChange slipSumsWrong)

/-- 'chancerylaw09.SlipTakes': WHATEVER THE INPUT: true; the input reads as it did. -/
def slipTakesSpec : ChangeSpec := { name := "slipTakes", fn := fun _ => fun
  | [d] => { results := [.lit (.bool true)], args := [d] }
  | _ => none }
def slipTakesRow : OpenClaim := { program := "ytnddanaangolgaa", sum := "55cb7f054ee4d63c12cd407a1eb4e6c86d74b3c5822e0bcf8cee5ee55e14e755", func := "chancery/chancerylaw09.SlipTakes", spec := "slipTakes", apart := false }
def SlipTakesSaid : Prop := slipTakesRow.holds Try.pinned (OpenSpec.ofChange slipTakesSpec)

/-- ITS FALSE NEIGHBOUR: 'it returns false'. Refute it at one input. -/
def slipTakesWrong : ChangeSpec := { name := "slipTakes", fn := fun _ => fun
  | [d] => { results := [.lit (.bool false)], args := [d] }
  | _ => none }
def SlipTakesWrongFalsely : Prop := slipTakesRow.holds Try.pinned (OpenSpec.ofChange slipTakesWrong)

/-- 'chancerylaw09.SlipPuts': WHATEVER THE INPUT: true; the input reads as it did. -/
def slipPutsSpec : ChangeSpec := { name := "slipPuts", fn := fun _ => fun
  | [d1, d2] => { results := [.lit (.bool true)], args := [d1, d2] }
  | _ => none }
def slipPutsRow : OpenClaim := { program := "ytnddanaangolgaa", sum := "55cb7f054ee4d63c12cd407a1eb4e6c86d74b3c5822e0bcf8cee5ee55e14e755", func := "chancery/chancerylaw09.SlipPuts", spec := "slipPuts", apart := false }
def SlipPutsSaid : Prop := slipPutsRow.holds Try.pinned (OpenSpec.ofChange slipPutsSpec)

/-- ITS FALSE NEIGHBOUR: 'it returns false'. Refute it at one input. -/
def slipPutsWrong : ChangeSpec := { name := "slipPuts", fn := fun _ => fun
  | [d1, d2] => { results := [.lit (.bool false)], args := [d1, d2] }
  | _ => none }
def SlipPutsWrongFalsely : Prop := slipPutsRow.holds Try.pinned (OpenSpec.ofChange slipPutsWrong)

/-- 'chancerylaw09.SlipRows': WHATEVER THE INPUT: true; the input reads as it did. -/
def slipRowsSpec : ChangeSpec := { name := "slipRows", fn := fun _ => fun
  | [d1, d2] => { results := [.lit (.bool true)], args := [d1, d2] }
  | _ => none }
def slipRowsRow : OpenClaim := { program := "ytnddanaangolgaa", sum := "55cb7f054ee4d63c12cd407a1eb4e6c86d74b3c5822e0bcf8cee5ee55e14e755", func := "chancery/chancerylaw09.SlipRows", spec := "slipRows", unfollowed := true, recurses := true, apart := false }
def SlipRowsSaid : Prop := slipRowsRow.holds Try.pinned (OpenSpec.ofChange slipRowsSpec)

/-- ITS FALSE NEIGHBOUR: 'it returns false'. Refute it at one input. -/
def slipRowsWrong : ChangeSpec := { name := "slipRows", fn := fun _ => fun
  | [d1, d2] => { results := [.lit (.bool false)], args := [d1, d2] }
  | _ => none }
def SlipRowsWrongFalsely : Prop := slipRowsRow.holds Try.pinned (OpenSpec.ofChange slipRowsWrong)

/-- 'chancerylaw09.SlipSpoilt': WHATEVER THE INPUT: true; the input reads as it did. -/
def slipSpoiltSpec : ChangeSpec := { name := "slipSpoilt", fn := fun _ => fun
  | [d1, d2] => { results := [.lit (.bool true)], args := [d1, d2] }
  | _ => none }
def slipSpoiltRow : OpenClaim := { program := "ytnddanaangolgaa", sum := "55cb7f054ee4d63c12cd407a1eb4e6c86d74b3c5822e0bcf8cee5ee55e14e755", func := "chancery/chancerylaw09.SlipSpoilt", spec := "slipSpoilt", apart := false }
def SlipSpoiltSaid : Prop := slipSpoiltRow.holds Try.pinned (OpenSpec.ofChange slipSpoiltSpec)

/-- ITS FALSE NEIGHBOUR: 'it returns false'. Refute it at one input. -/
def slipSpoiltWrong : ChangeSpec := { name := "slipSpoilt", fn := fun _ => fun
  | [d1, d2] => { results := [.lit (.bool false)], args := [d1, d2] }
  | _ => none }
def SlipSpoiltWrongFalsely : Prop := slipSpoiltRow.holds Try.pinned (OpenSpec.ofChange slipSpoiltWrong)

/-- 'chancerylaw09.SlipTorn': WHATEVER THE INPUT: true; the input reads as it did. -/
def slipTornSpec : ChangeSpec := { name := "slipTorn", fn := fun _ => fun
  | [d1, d2] => { results := [.lit (.bool true)], args := [d1, d2] }
  | _ => none }
def slipTornRow : OpenClaim := { program := "ytnddanaangolgaa", sum := "55cb7f054ee4d63c12cd407a1eb4e6c86d74b3c5822e0bcf8cee5ee55e14e755", func := "chancery/chancerylaw09.SlipTorn", spec := "slipTorn", unfollowed := true, recurses := true, apart := false }
def SlipTornSaid : Prop := slipTornRow.holds Try.pinned (OpenSpec.ofChange slipTornSpec)

/-- ITS FALSE NEIGHBOUR: 'it returns false'. Refute it at one input. -/
def slipTornWrong : ChangeSpec := { name := "slipTorn", fn := fun _ => fun
  | [d1, d2] => { results := [.lit (.bool false)], args := [d1, d2] }
  | _ => none }
def SlipTornWrongFalsely : Prop := slipTornRow.holds Try.pinned (OpenSpec.ofChange slipTornWrong)

/- THE SECOND FORM. 'bulk': how many values and letters a reading holds, each counted each time it is reached (what is shared counts as often as it is met; a slice's spare places count too). A statement '..UptoSaid' is the law's where the arguments, and the package variables that the reading takes, are together of bulk at most 1048576: NARROWER than '..Said'. Prove '..Said' where nothing that the law and all that it calls make is longer than what came in: it says more and counts as full. Else prove '..UptoSaid'. A law counts once. -/
mutual
def uptoBulk {H : Type} : DataW H → Nat
  | .lit (.string bytes) => bytes.length + 1
  | .lit _ => 1
  | .nil => 1
  | .ptr d => uptoBulk d + 1
  | .slice elems spare => uptoBulkAll elems + uptoBulkAll spare + 1
  | .agg parts => uptoBulkAll parts + 1
  | .iface _ d => uptoBulk d + 1
  | .map entries => uptoBulkEntries entries + 1
  | .held _ => 1
def uptoBulkAll {H : Type} : List (DataW H) → Nat
  | [] => 0
  | d :: r => uptoBulk d + uptoBulkAll r
def uptoBulkEntries {H : Type} : List (Lit × DataW H) → Nat
  | [] => 0
  | x :: r => uptoBulkEntry x + uptoBulkEntries r
def uptoBulkEntry {H : Type} : Lit × DataW H → Nat
  | (.string bytes, d) => bytes.length + uptoBulk d + 1
  | (_, d) => uptoBulk d + 1
 end
def uptoSmall : (H : Type) → List (DataW H) → Bool := fun _ ds => decide (uptoBulkAll ds ≤ 1048576)
def OpenSpec.upto (s : _root_.Go.ChangeSpec) : _root_.Go.OpenSpec := { _root_.Go.OpenSpec.ofChange s with cond := some uptoSmall }

/-- 'chancerylaw09.SlipLaid', WHERE WHAT IT READS IS OF BULK AT MOST 1048576: true; the input reads as it did. -/
def slipLaidUptoRow : OpenClaim := { program := "ytnddanaangolgaa", sum := "55cb7f054ee4d63c12cd407a1eb4e6c86d74b3c5822e0bcf8cee5ee55e14e755", func := "chancery/chancerylaw09.SlipLaid", spec := "slipLaid", apart := false, narrowed := true }
def SlipLaidUptoSaid : Prop := slipLaidUptoRow.holds Try.pinned (OpenSpec.upto slipLaidSpec)

/-- 'chancerylaw09.SlipSums', WHERE WHAT IT READS IS OF BULK AT MOST 1048576: true; the input reads as it did. -/
def slipSumsUptoRow : OpenClaim := { program := "ytnddanaangolgaa", sum := "55cb7f054ee4d63c12cd407a1eb4e6c86d74b3c5822e0bcf8cee5ee55e14e755", func := "chancery/chancerylaw09.SlipSums", spec := "slipSums", apart := false, narrowed := true }
def SlipSumsUptoSaid : Prop := slipSumsUptoRow.holds Try.pinned (OpenSpec.upto slipSumsSpec)

/-- 'chancerylaw09.SlipTakes', WHERE WHAT IT READS IS OF BULK AT MOST 1048576: true; the input reads as it did. -/
def slipTakesUptoRow : OpenClaim := { program := "ytnddanaangolgaa", sum := "55cb7f054ee4d63c12cd407a1eb4e6c86d74b3c5822e0bcf8cee5ee55e14e755", func := "chancery/chancerylaw09.SlipTakes", spec := "slipTakes", apart := false, narrowed := true }
def SlipTakesUptoSaid : Prop := slipTakesUptoRow.holds Try.pinned (OpenSpec.upto slipTakesSpec)

/-- 'chancerylaw09.SlipPuts', WHERE WHAT IT READS IS OF BULK AT MOST 1048576: true; the input reads as it did. -/
def slipPutsUptoRow : OpenClaim := { program := "ytnddanaangolgaa", sum := "55cb7f054ee4d63c12cd407a1eb4e6c86d74b3c5822e0bcf8cee5ee55e14e755", func := "chancery/chancerylaw09.SlipPuts", spec := "slipPuts", apart := false, narrowed := true }
def SlipPutsUptoSaid : Prop := slipPutsUptoRow.holds Try.pinned (OpenSpec.upto slipPutsSpec)

/-- 'chancerylaw09.SlipRows', WHERE WHAT IT READS IS OF BULK AT MOST 1048576: true; the input reads as it did. -/
def slipRowsUptoRow : OpenClaim := { program := "ytnddanaangolgaa", sum := "55cb7f054ee4d63c12cd407a1eb4e6c86d74b3c5822e0bcf8cee5ee55e14e755", func := "chancery/chancerylaw09.SlipRows", spec := "slipRows", unfollowed := true, recurses := true, apart := false, narrowed := true }
def SlipRowsUptoSaid : Prop := slipRowsUptoRow.holds Try.pinned (OpenSpec.upto slipRowsSpec)

/-- 'chancerylaw09.SlipSpoilt', WHERE WHAT IT READS IS OF BULK AT MOST 1048576: true; the input reads as it did. -/
def slipSpoiltUptoRow : OpenClaim := { program := "ytnddanaangolgaa", sum := "55cb7f054ee4d63c12cd407a1eb4e6c86d74b3c5822e0bcf8cee5ee55e14e755", func := "chancery/chancerylaw09.SlipSpoilt", spec := "slipSpoilt", apart := false, narrowed := true }
def SlipSpoiltUptoSaid : Prop := slipSpoiltUptoRow.holds Try.pinned (OpenSpec.upto slipSpoiltSpec)

/-- 'chancerylaw09.SlipTorn', WHERE WHAT IT READS IS OF BULK AT MOST 1048576: true; the input reads as it did. -/
def slipTornUptoRow : OpenClaim := { program := "ytnddanaangolgaa", sum := "55cb7f054ee4d63c12cd407a1eb4e6c86d74b3c5822e0bcf8cee5ee55e14e755", func := "chancery/chancerylaw09.SlipTorn", spec := "slipTorn", unfollowed := true, recurses := true, apart := false, narrowed := true }
def SlipTornUptoSaid : Prop := slipTornUptoRow.holds Try.pinned (OpenSpec.upto slipTornSpec)

end Rows
end Go.Proofs.Ytnddanaangolgaa
