/-
  No cell of these rows narrows 'for every input' (looked for: loops, veiled, ifaces, maps, wideKeys, modest, calm, conditions, laid).
  DERIVED. THE GIVEN ROWS OF THIS SEAT. 6 by the template 'for every input the law returns true; each argument reads behind the call as it read before'; 0 by the template 'total and deterministic' (their statements: YtiijcncdjjdglaaTotals.lean).
  GIVEN WITH THE SEED: the statements are not yours to turn. If you find one false, say at which input.
  Laid BY PROGRAM, IN A SANDBOX (cutbox-rows.mjs): the forced cells as the released guide's own fill.sh prints them over the translation b343232c3904cafa… (all of the seat's roots in one cut). By AI agents, Wed Nov 11 2026. No macro, syntax, notation, axiom, sorry.
-/
import Derived.Test.YtiijcncdjjdglaaChecked
import GoSem.Claim
import GoSem.ClaimJoined
import GoSem.ClaimMapViews
import Derived.JoinedTies
import Derived.KernelRfl
namespace Go.Proofs.Ytiijcncdjjdglaa
/- THE CELL 'sum', in the pinned program and in every row, IS THE sha256 OF THE DUMP (.gsa) THAT YtiijcncdjjdglaaProg.lean LOADS. Nothing in Lean hashes anything: it is a label: what it is worth is what the hold of that sum in a sandbox is worth. -/
noncomputable def Try.pinned : Pinned := { name := "ytiijcncdjjdglaa", sum := "b343232c3904cafa4694ef6f8692422fc8f9da3ec4c563db1d23c77e5f3b9556", checked := Try.checked }
namespace Rows
def none {H : Type} : Left H := { results := [], args := [] }

/-- 'chancerylaw07.ModRing': WHATEVER THE INPUT: true; the input reads as it did. -/
def modRingSpec : ChangeSpec := { name := "modRing", fn := fun _ => fun
  | [d1, d2, d3] => { results := [.lit (.bool true)], args := [d1, d2, d3] }
  | _ => none }
def modRingRow : OpenClaim := { program := "ytiijcncdjjdglaa", sum := "b343232c3904cafa4694ef6f8692422fc8f9da3ec4c563db1d23c77e5f3b9556", func := "chancery/chancerylaw07.ModRing", spec := "modRing", inPlace := ["math/bits.Add64", "math/bits.Sub64"], named := ["math/bits.divideError", "math/bits.overflowError"], apart := false }
def ModRingSaid : Prop := modRingRow.holds Try.pinned (OpenSpec.ofChange modRingSpec)

/-- ITS FALSE NEIGHBOUR: 'it returns false'. Refute it at one input. -/
def modRingWrong : ChangeSpec := { name := "modRing", fn := fun _ => fun
  | [d1, d2, d3] => { results := [.lit (.bool false)], args := [d1, d2, d3] }
  | _ => none }
def ModRingWrongFalsely : Prop := modRingRow.holds Try.pinned (OpenSpec.ofChange modRingWrong)

/-- 'chancerylaw07.ModReckons': WHATEVER THE INPUT: true; the input reads as it did. -/
def modReckonsSpec : ChangeSpec := { name := "modReckons", fn := fun _ => fun
  | [d1, d2, d3] => { results := [.lit (.bool true)], args := [d1, d2, d3] }
  | _ => none }
def modReckonsRow : OpenClaim := { program := "ytiijcncdjjdglaa", sum := "b343232c3904cafa4694ef6f8692422fc8f9da3ec4c563db1d23c77e5f3b9556", func := "chancery/chancerylaw07.ModReckons", spec := "modReckons", inPlace := ["math/bits.Add64", "math/bits.Sub64"], named := ["math/bits.divideError", "math/bits.overflowError"], apart := false }
def ModReckonsSaid : Prop := modReckonsRow.holds Try.pinned (OpenSpec.ofChange modReckonsSpec)

/-- ITS FALSE NEIGHBOUR: 'it returns false'. Refute it at one input. -/
def modReckonsWrong : ChangeSpec := { name := "modReckons", fn := fun _ => fun
  | [d1, d2, d3] => { results := [.lit (.bool false)], args := [d1, d2, d3] }
  | _ => none }
def ModReckonsWrongFalsely : Prop := modReckonsRow.holds Try.pinned (OpenSpec.ofChange modReckonsWrong)

/-- 'chancerylaw07.ModPowers': WHATEVER THE INPUT: true; the input reads as it did. -/
def modPowersSpec : ChangeSpec := { name := "modPowers", fn := fun _ => fun
  | [d1, d2, d3] => { results := [.lit (.bool true)], args := [d1, d2, d3] }
  | _ => none }
def modPowersRow : OpenClaim := { program := "ytiijcncdjjdglaa", sum := "b343232c3904cafa4694ef6f8692422fc8f9da3ec4c563db1d23c77e5f3b9556", func := "chancery/chancerylaw07.ModPowers", spec := "modPowers", inPlace := ["math/bits.Add64", "math/bits.Sub64"], unfollowed := true, recurses := true, named := ["math/bits.divideError", "math/bits.overflowError"], apart := false }
def ModPowersSaid : Prop := modPowersRow.holds Try.pinned (OpenSpec.ofChange modPowersSpec)

/-- ITS FALSE NEIGHBOUR: 'it returns false'. Refute it at one input. -/
def modPowersWrong : ChangeSpec := { name := "modPowers", fn := fun _ => fun
  | [d1, d2, d3] => { results := [.lit (.bool false)], args := [d1, d2, d3] }
  | _ => none }
def ModPowersWrongFalsely : Prop := modPowersRow.holds Try.pinned (OpenSpec.ofChange modPowersWrong)

/-- 'chancerylaw07.ModInverses': WHATEVER THE INPUT: true; the input reads as it did. -/
def modInversesSpec : ChangeSpec := { name := "modInverses", fn := fun _ => fun
  | [d1, d2] => { results := [.lit (.bool true)], args := [d1, d2] }
  | _ => none }
def modInversesRow : OpenClaim := { program := "ytiijcncdjjdglaa", sum := "b343232c3904cafa4694ef6f8692422fc8f9da3ec4c563db1d23c77e5f3b9556", func := "chancery/chancerylaw07.ModInverses", spec := "modInverses", inPlace := ["math/bits.Add64", "math/bits.Sub64"], named := ["math/bits.divideError", "math/bits.overflowError"], apart := false }
def ModInversesSaid : Prop := modInversesRow.holds Try.pinned (OpenSpec.ofChange modInversesSpec)

/-- ITS FALSE NEIGHBOUR: 'it returns false'. Refute it at one input. -/
def modInversesWrong : ChangeSpec := { name := "modInverses", fn := fun _ => fun
  | [d1, d2] => { results := [.lit (.bool false)], args := [d1, d2] }
  | _ => none }
def ModInversesWrongFalsely : Prop := modInversesRow.holds Try.pinned (OpenSpec.ofChange modInversesWrong)

/-- 'chancerylaw07.ModNobody': WHATEVER THE INPUT: true; the input reads as it did. -/
def modNobodySpec : ChangeSpec := { name := "modNobody", fn := fun _ => fun
  | [d] => { results := [.lit (.bool true)], args := [d] }
  | _ => none }
def modNobodyRow : OpenClaim := { program := "ytiijcncdjjdglaa", sum := "b343232c3904cafa4694ef6f8692422fc8f9da3ec4c563db1d23c77e5f3b9556", func := "chancery/chancerylaw07.ModNobody", spec := "modNobody", inPlace := ["math/bits.Add64", "math/bits.Sub64"], unfollowed := true, recurses := true, named := ["math/bits.divideError", "math/bits.overflowError"], apart := false }
def ModNobodySaid : Prop := modNobodyRow.holds Try.pinned (OpenSpec.ofChange modNobodySpec)

/-- ITS FALSE NEIGHBOUR: 'it returns false'. Refute it at one input. -/
def modNobodyWrong : ChangeSpec := { name := "modNobody", fn := fun _ => fun
  | [d] => { results := [.lit (.bool false)], args := [d] }
  | _ => none }
def ModNobodyWrongFalsely : Prop := modNobodyRow.holds Try.pinned (OpenSpec.ofChange modNobodyWrong)

/-- 'chancerylaw07.ModGroup': WHATEVER THE INPUT: true; the input reads as it did. -/
def modGroupSpec : ChangeSpec := { name := "modGroup", fn := fun _ => fun
  | [d1, d2, d3] => { results := [.lit (.bool true)], args := [d1, d2, d3] }
  | _ => none }
def modGroupRow : OpenClaim := { program := "ytiijcncdjjdglaa", sum := "b343232c3904cafa4694ef6f8692422fc8f9da3ec4c563db1d23c77e5f3b9556", func := "chancery/chancerylaw07.ModGroup", spec := "modGroup", inPlace := ["math/bits.Add64", "math/bits.Sub64"], unfollowed := true, recurses := true, named := ["math/bits.divideError", "math/bits.overflowError"], apart := false }
def ModGroupSaid : Prop := modGroupRow.holds Try.pinned (OpenSpec.ofChange modGroupSpec)

/-- ITS FALSE NEIGHBOUR: 'it returns false'. Refute it at one input. -/
def modGroupWrong : ChangeSpec := { name := "modGroup", fn := fun _ => fun
  | [d1, d2, d3] => { results := [.lit (.bool false)], args := [d1, d2, d3] }
  | _ => none }
def ModGroupWrongFalsely : Prop := modGroupRow.holds Try.pinned (OpenSpec.ofChange modGroupWrong)

/- THE SECOND FORM. 'bulk': how many values and letters a reading holds, each counted each time it is reached (what is shared counts as often as it is met; a slice's spare places count too). A statement '..UptoSaid' is the law's where the arguments, and the package variables that the reading takes, are together of bulk at most 1048576: NARROWER than '..Said'. Prove '..Said' where nothing that the law and all that it calls make is longer than what came in: it says more and counts as full. Else prove '..UptoSaid'. A law counts once. -/
mutual
def uptoBulk {H : Type} : DataW H → Nat
  | .lit (.string bytes) => bytes.length + 1
  | .lit _ => 1
  | .nil => 1
  | .ptr d => uptoBulk d + 1
  | .slice elems spare => uptoBulkAll elems + uptoBulkAll spare + 1
  | .agg parts => uptoBulkAll parts + 1
  | .iface _ d => uptoBulk d + 1
  | .map entries => uptoBulkEntries entries + 1
  | .held _ => 1
def uptoBulkAll {H : Type} : List (DataW H) → Nat
  | [] => 0
  | d :: r => uptoBulk d + uptoBulkAll r
def uptoBulkEntries {H : Type} : List (Lit × DataW H) → Nat
  | [] => 0
  | x :: r => uptoBulkEntry x + uptoBulkEntries r
def uptoBulkEntry {H : Type} : Lit × DataW H → Nat
  | (.string bytes, d) => bytes.length + uptoBulk d + 1
  | (_, d) => uptoBulk d + 1
 end
def uptoSmall : (H : Type) → List (DataW H) → Bool := fun _ ds => decide (uptoBulkAll ds ≤ 1048576)
def OpenSpec.upto (s : _root_.Go.ChangeSpec) : _root_.Go.OpenSpec := { _root_.Go.OpenSpec.ofChange s with cond := some uptoSmall }

/-- 'chancerylaw07.ModRing', WHERE WHAT IT READS IS OF BULK AT MOST 1048576: true; the input reads as it did. -/
def modRingUptoRow : OpenClaim := { program := "ytiijcncdjjdglaa", sum := "b343232c3904cafa4694ef6f8692422fc8f9da3ec4c563db1d23c77e5f3b9556", func := "chancery/chancerylaw07.ModRing", spec := "modRing", inPlace := ["math/bits.Add64", "math/bits.Sub64"], named := ["math/bits.divideError", "math/bits.overflowError"], apart := false, narrowed := true }
def ModRingUptoSaid : Prop := modRingUptoRow.holds Try.pinned (OpenSpec.upto modRingSpec)

/-- 'chancerylaw07.ModReckons', WHERE WHAT IT READS IS OF BULK AT MOST 1048576: true; the input reads as it did. -/
def modReckonsUptoRow : OpenClaim := { program := "ytiijcncdjjdglaa", sum := "b343232c3904cafa4694ef6f8692422fc8f9da3ec4c563db1d23c77e5f3b9556", func := "chancery/chancerylaw07.ModReckons", spec := "modReckons", inPlace := ["math/bits.Add64", "math/bits.Sub64"], named := ["math/bits.divideError", "math/bits.overflowError"], apart := false, narrowed := true }
def ModReckonsUptoSaid : Prop := modReckonsUptoRow.holds Try.pinned (OpenSpec.upto modReckonsSpec)

/-- 'chancerylaw07.ModPowers', WHERE WHAT IT READS IS OF BULK AT MOST 1048576: true; the input reads as it did. -/
def modPowersUptoRow : OpenClaim := { program := "ytiijcncdjjdglaa", sum := "b343232c3904cafa4694ef6f8692422fc8f9da3ec4c563db1d23c77e5f3b9556", func := "chancery/chancerylaw07.ModPowers", spec := "modPowers", inPlace := ["math/bits.Add64", "math/bits.Sub64"], unfollowed := true, recurses := true, named := ["math/bits.divideError", "math/bits.overflowError"], apart := false, narrowed := true }
def ModPowersUptoSaid : Prop := modPowersUptoRow.holds Try.pinned (OpenSpec.upto modPowersSpec)

/-- 'chancerylaw07.ModInverses', WHERE WHAT IT READS IS OF BULK AT MOST 1048576: true; the input reads as it did. -/
def modInversesUptoRow : OpenClaim := { program := "ytiijcncdjjdglaa", sum := "b343232c3904cafa4694ef6f8692422fc8f9da3ec4c563db1d23c77e5f3b9556", func := "chancery/chancerylaw07.ModInverses", spec := "modInverses", inPlace := ["math/bits.Add64", "math/bits.Sub64"], named := ["math/bits.divideError", "math/bits.overflowError"], apart := false, narrowed := true }
def ModInversesUptoSaid : Prop := modInversesUptoRow.holds Try.pinned (OpenSpec.upto modInversesSpec)

/-- 'chancerylaw07.ModNobody', WHERE WHAT IT READS IS OF BULK AT MOST 1048576: true; the input reads as it did. -/
def modNobodyUptoRow : OpenClaim := { program := "ytiijcncdjjdglaa", sum := "b343232c3904cafa4694ef6f8692422fc8f9da3ec4c563db1d23c77e5f3b9556", func := "chancery/chancerylaw07.ModNobody", spec := "modNobody", inPlace := ["math/bits.Add64", "math/bits.Sub64"], unfollowed := true, recurses := true, named := ["math/bits.divideError", "math/bits.overflowError"], apart := false, narrowed := true }
def ModNobodyUptoSaid : Prop := modNobodyUptoRow.holds Try.pinned (OpenSpec.upto modNobodySpec)

/-- 'chancerylaw07.ModGroup', WHERE WHAT IT READS IS OF BULK AT MOST 1048576: true; the input reads as it did. -/
def modGroupUptoRow : OpenClaim := { program := "ytiijcncdjjdglaa", sum := "b343232c3904cafa4694ef6f8692422fc8f9da3ec4c563db1d23c77e5f3b9556", func := "chancery/chancerylaw07.ModGroup", spec := "modGroup", inPlace := ["math/bits.Add64", "math/bits.Sub64"], unfollowed := true, recurses := true, named := ["math/bits.divideError", "math/bits.overflowError"], apart := false, narrowed := true }
def ModGroupUptoSaid : Prop := modGroupUptoRow.holds Try.pinned (OpenSpec.upto modGroupSpec)

end Rows
end Go.Proofs.Ytiijcncdjjdglaa
