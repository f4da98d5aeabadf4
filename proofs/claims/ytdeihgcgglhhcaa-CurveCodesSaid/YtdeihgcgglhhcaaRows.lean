/-
  No cell of these rows narrows 'for every input' (looked for: loops, veiled, ifaces, maps, wideKeys, modest, calm, conditions, laid).
  DERIVED. THE GIVEN ROWS OF THIS SEAT. 6 by the template 'for every input the law returns true; each argument reads behind the call as it read before'; 0 by the template 'total and deterministic' (their statements: YtdeihgcgglhhcaaTotals.lean).
  GIVEN WITH THE SEED: the statements are not yours to turn. If you find one false, say at which input.
  Laid BY PROGRAM, IN A SANDBOX (cutbox-rows.mjs): the forced cells as the released guide's own fill.sh prints them over the translation a77e7408bfd5a889… (all of the seat's roots in one cut). By AI agents, Wed Nov 11 2026. No macro, syntax, notation, axiom, sorry.
-/
import Derived.Test.YtdeihgcgglhhcaaChecked
import GoSem.Claim
import GoSem.ClaimJoined
import GoSem.ClaimMapViews
import Derived.JoinedTies
import Derived.KernelRfl
namespace Go.Proofs.Ytdeihgcgglhhcaa
/- THE CELL 'sum', in the pinned program and in every row, IS THE sha256 OF THE DUMP (.gsa) THAT YtdeihgcgglhhcaaProg.lean LOADS. Nothing in Lean hashes anything: it is a label: what it is worth is what the hold of that sum in a sandbox is worth. -/
noncomputable def Try.pinned : Pinned := { name := "ytdeihgcgglhhcaa", sum := "a77e7408bfd5a88929a3ae2670f21c34af124eb8bdd07985cf2c9729f56d4a93", checked := Try.checked }
namespace Rows
def none {H : Type} : Left H := { results := [], args := [] }

/-- 'chancerylaw10.CurveDecodes': WHATEVER THE INPUT: true; the input reads as it did. -/
def curveDecodesSpec : ChangeSpec := { name := "curveDecodes", fn := fun _ => fun
  | [d] => { results := [.lit (.bool true)], args := [d] }
  | _ => none }
def curveDecodesRow : OpenClaim := { program := "ytdeihgcgglhhcaa", sum := "a77e7408bfd5a88929a3ae2670f21c34af124eb8bdd07985cf2c9729f56d4a93", func := "chancery/chancerylaw10.CurveDecodes", spec := "curveDecodes", inPlace := ["math/bits.Add64", "math/bits.Sub64"], apart := false }
def CurveDecodesSaid : Prop := curveDecodesRow.holds Try.pinned (OpenSpec.ofChange curveDecodesSpec)

/-- ITS FALSE NEIGHBOUR: 'it returns false'. Refute it at one input. -/
def curveDecodesWrong : ChangeSpec := { name := "curveDecodes", fn := fun _ => fun
  | [d] => { results := [.lit (.bool false)], args := [d] }
  | _ => none }
def CurveDecodesWrongFalsely : Prop := curveDecodesRow.holds Try.pinned (OpenSpec.ofChange curveDecodesWrong)

/-- 'chancerylaw10.CurveAdds': WHATEVER THE INPUT: true; the input reads as it did. -/
def curveAddsSpec : ChangeSpec := { name := "curveAdds", fn := fun _ => fun
  | [d1, d2, d3] => { results := [.lit (.bool true)], args := [d1, d2, d3] }
  | _ => none }
def curveAddsRow : OpenClaim := { program := "ytdeihgcgglhhcaa", sum := "a77e7408bfd5a88929a3ae2670f21c34af124eb8bdd07985cf2c9729f56d4a93", func := "chancery/chancerylaw10.CurveAdds", spec := "curveAdds", inPlace := ["math/bits.Add64", "math/bits.Sub64"], unfollowed := true, recurses := true, apart := false }
def CurveAddsSaid : Prop := curveAddsRow.holds Try.pinned (OpenSpec.ofChange curveAddsSpec)

/-- ITS FALSE NEIGHBOUR: 'it returns false'. Refute it at one input. -/
def curveAddsWrong : ChangeSpec := { name := "curveAdds", fn := fun _ => fun
  | [d1, d2, d3] => { results := [.lit (.bool false)], args := [d1, d2, d3] }
  | _ => none }
def CurveAddsWrongFalsely : Prop := curveAddsRow.holds Try.pinned (OpenSpec.ofChange curveAddsWrong)

/-- 'chancerylaw10.CurveMuls': WHATEVER THE INPUT: true; the input reads as it did. -/
def curveMulsSpec : ChangeSpec := { name := "curveMuls", fn := fun _ => fun
  | [d1, d2] => { results := [.lit (.bool true)], args := [d1, d2] }
  | _ => none }
def curveMulsRow : OpenClaim := { program := "ytdeihgcgglhhcaa", sum := "a77e7408bfd5a88929a3ae2670f21c34af124eb8bdd07985cf2c9729f56d4a93", func := "chancery/chancerylaw10.CurveMuls", spec := "curveMuls", inPlace := ["math/bits.Add64", "math/bits.Sub64"], unfollowed := true, recurses := true, apart := false }
def CurveMulsSaid : Prop := curveMulsRow.holds Try.pinned (OpenSpec.ofChange curveMulsSpec)

/-- ITS FALSE NEIGHBOUR: 'it returns false'. Refute it at one input. -/
def curveMulsWrong : ChangeSpec := { name := "curveMuls", fn := fun _ => fun
  | [d1, d2] => { results := [.lit (.bool false)], args := [d1, d2] }
  | _ => none }
def CurveMulsWrongFalsely : Prop := curveMulsRow.holds Try.pinned (OpenSpec.ofChange curveMulsWrong)

/-- 'chancerylaw10.CurveBrackets': WHATEVER THE INPUT: true; the input reads as it did. -/
def curveBracketsSpec : ChangeSpec := { name := "curveBrackets", fn := fun _ => fun
  | [d1, d2, d3] => { results := [.lit (.bool true)], args := [d1, d2, d3] }
  | _ => none }
def curveBracketsRow : OpenClaim := { program := "ytdeihgcgglhhcaa", sum := "a77e7408bfd5a88929a3ae2670f21c34af124eb8bdd07985cf2c9729f56d4a93", func := "chancery/chancerylaw10.CurveBrackets", spec := "curveBrackets", inPlace := ["math/bits.Add64", "math/bits.Sub64"], unfollowed := true, recurses := true, apart := false }
def CurveBracketsSaid : Prop := curveBracketsRow.holds Try.pinned (OpenSpec.ofChange curveBracketsSpec)

/-- ITS FALSE NEIGHBOUR: 'it returns false'. Refute it at one input. -/
def curveBracketsWrong : ChangeSpec := { name := "curveBrackets", fn := fun _ => fun
  | [d1, d2, d3] => { results := [.lit (.bool false)], args := [d1, d2, d3] }
  | _ => none }
def CurveBracketsWrongFalsely : Prop := curveBracketsRow.holds Try.pinned (OpenSpec.ofChange curveBracketsWrong)

/-- 'chancerylaw10.CurveOns': WHATEVER THE INPUT: true; the input reads as it did. -/
def curveOnsSpec : ChangeSpec := { name := "curveOns", fn := fun _ => fun
  | [d] => { results := [.lit (.bool true)], args := [d] }
  | _ => none }
def curveOnsRow : OpenClaim := { program := "ytdeihgcgglhhcaa", sum := "a77e7408bfd5a88929a3ae2670f21c34af124eb8bdd07985cf2c9729f56d4a93", func := "chancery/chancerylaw10.CurveOns", spec := "curveOns", inPlace := ["math/bits.Add64", "math/bits.Sub64"], unfollowed := true, recurses := true, apart := false }
def CurveOnsSaid : Prop := curveOnsRow.holds Try.pinned (OpenSpec.ofChange curveOnsSpec)

/-- ITS FALSE NEIGHBOUR: 'it returns false'. Refute it at one input. -/
def curveOnsWrong : ChangeSpec := { name := "curveOns", fn := fun _ => fun
  | [d] => { results := [.lit (.bool false)], args := [d] }
  | _ => none }
def CurveOnsWrongFalsely : Prop := curveOnsRow.holds Try.pinned (OpenSpec.ofChange curveOnsWrong)

/-- 'chancerylaw10.CurveCodes': WHATEVER THE INPUT: true; the input reads as it did. -/
def curveCodesSpec : ChangeSpec := { name := "curveCodes", fn := fun _ => fun
  | [d] => { results := [.lit (.bool true)], args := [d] }
  | _ => none }
def curveCodesRow : OpenClaim := { program := "ytdeihgcgglhhcaa", sum := "a77e7408bfd5a88929a3ae2670f21c34af124eb8bdd07985cf2c9729f56d4a93", func := "chancery/chancerylaw10.CurveCodes", spec := "curveCodes", inPlace := ["math/bits.Add64", "math/bits.Sub64"], unfollowed := true, recurses := true, apart := false }
def CurveCodesSaid : Prop := curveCodesRow.holds Try.pinned (OpenSpec.ofChange curveCodesSpec)

/-- ITS FALSE NEIGHBOUR: 'it returns false'. Refute it at one input. -/
def curveCodesWrong : ChangeSpec := { name := "curveCodes", fn := fun _ => fun
  | [d] => { results := [.lit (.bool false)], args := [d] }
  | _ => none }
def CurveCodesWrongFalsely : Prop := curveCodesRow.holds Try.pinned (OpenSpec.ofChange curveCodesWrong)

/- THE SECOND FORM. 'bulk': how many values and letters a reading holds, each counted each time it is reached (what is shared counts as often as it is met; a slice's spare places count too). A statement '..UptoSaid' is the law's where the arguments, and the package variables that the reading takes, are together of bulk at most 1048576: NARROWER than '..Said'. Prove '..Said' where nothing that the law and all that it calls make is longer than what came in: it says more and counts as full. Else prove '..UptoSaid'. A law counts once. -/
mutual
def uptoBulk {H : Type} : DataW H → Nat
  | .lit (.string bytes) => bytes.length + 1
  | .lit _ => 1
  | .nil => 1
  | .ptr d => uptoBulk d + 1
  | .slice elems spare => uptoBulkAll elems + uptoBulkAll spare + 1
  | .agg parts => uptoBulkAll parts + 1
  | .iface _ d => uptoBulk d + 1
  | .map entries => uptoBulkEntries entries + 1
  | .held _ => 1
def uptoBulkAll {H : Type} : List (DataW H) → Nat
  | [] => 0
  | d :: r => uptoBulk d + uptoBulkAll r
def uptoBulkEntries {H : Type} : List (Lit × DataW H) → Nat
  | [] => 0
  | x :: r => uptoBulkEntry x + uptoBulkEntries r
def uptoBulkEntry {H : Type} : Lit × DataW H → Nat
  | (.string bytes, d) => bytes.length + uptoBulk d + 1
  | (_, d) => uptoBulk d + 1
 end
def uptoSmall : (H : Type) → List (DataW H) → Bool := fun _ ds => decide (uptoBulkAll ds ≤ 1048576)
def OpenSpec.upto (s : _root_.Go.ChangeSpec) : _root_.Go.OpenSpec := { _root_.Go.OpenSpec.ofChange s with cond := some uptoSmall }

/-- 'chancerylaw10.CurveDecodes', WHERE WHAT IT READS IS OF BULK AT MOST 1048576: true; the input reads as it did. -/
def curveDecodesUptoRow : OpenClaim := { program := "ytdeihgcgglhhcaa", sum := "a77e7408bfd5a88929a3ae2670f21c34af124eb8bdd07985cf2c9729f56d4a93", func := "chancery/chancerylaw10.CurveDecodes", spec := "curveDecodes", inPlace := ["math/bits.Add64", "math/bits.Sub64"], apart := false, narrowed := true }
def CurveDecodesUptoSaid : Prop := curveDecodesUptoRow.holds Try.pinned (OpenSpec.upto curveDecodesSpec)

/-- 'chancerylaw10.CurveAdds', WHERE WHAT IT READS IS OF BULK AT MOST 1048576: true; the input reads as it did. -/
def curveAddsUptoRow : OpenClaim := { program := "ytdeihgcgglhhcaa", sum := "a77e7408bfd5a88929a3ae2670f21c34af124eb8bdd07985cf2c9729f56d4a93", func := "chancery/chancerylaw10.CurveAdds", spec := "curveAdds", inPlace := ["math/bits.Add64", "math/bits.Sub64"], unfollowed := true, recurses := true, apart := false, narrowed := true }
def CurveAddsUptoSaid : Prop := curveAddsUptoRow.holds Try.pinned (OpenSpec.upto curveAddsSpec)

/-- 'chancerylaw10.CurveMuls', WHERE WHAT IT READS IS OF BULK AT MOST 1048576: true; the input reads as it did. -/
def curveMulsUptoRow : OpenClaim := { program := "ytdeihgcgglhhcaa", sum := "a77e7408bfd5a88929a3ae2670f21c34af124eb8bdd07985cf2c9729f56d4a93", func := "chancery/chancerylaw10.CurveMuls", spec := "curveMuls", inPlace := ["math/bits.Add64", "math/bits.Sub64"], unfollowed := true, recurses := true, apart := false, narrowed := true }
def CurveMulsUptoSaid : Prop := curveMulsUptoRow.holds Try.pinned (OpenSpec.upto curveMulsSpec)

/-- 'chancerylaw10.CurveBrackets', WHERE WHAT IT READS IS OF BULK AT MOST 1048576: true; the input reads as it did. -/
def curveBracketsUptoRow : OpenClaim := { program := "ytdeihgcgglhhcaa", sum := "a77e7408bfd5a88929a3ae2670f21c34af124eb8bdd07985cf2c9729f56d4a93", func := "chancery/chancerylaw10.CurveBrackets", spec := "curveBrackets", inPlace := ["math/bits.Add64", "math/bits.Sub64"], unfollowed := true, recurses := true, apart := false, narrowed := true }
def CurveBracketsUptoSaid : Prop := curveBracketsUptoRow.holds Try.pinned (OpenSpec.upto curveBracketsSpec)

/-- 'chancerylaw10.CurveOns', WHERE WHAT IT READS IS OF BULK AT MOST 1048576: true; the input reads as it did. -/
def curveOnsUptoRow : OpenClaim := { program := "ytdeihgcgglhhcaa", sum := "a77e7408bfd5a88929a3ae2670f21c34af124eb8bdd07985cf2c9729f56d4a93", func := "chancery/chancerylaw10.CurveOns", spec := "curveOns", inPlace := ["math/bits.Add64", "math/bits.Sub64"], unfollowed := true, recurses := true, apart := false, narrowed := true }
def CurveOnsUptoSaid : Prop := curveOnsUptoRow.holds Try.pinned (OpenSpec.upto curveOnsSpec)

/-- 'chancerylaw10.CurveCodes', WHERE WHAT IT READS IS OF BULK AT MOST 1048576: true; the input reads as it did. -/
def curveCodesUptoRow : OpenClaim := { program := "ytdeihgcgglhhcaa", sum := "a77e7408bfd5a88929a3ae2670f21c34af124eb8bdd07985cf2c9729f56d4a93", func := "chancery/chancerylaw10.CurveCodes", spec := "curveCodes", inPlace := ["math/bits.Add64", "math/bits.Sub64"], unfollowed := true, recurses := true, apart := false, narrowed := true }
def CurveCodesUptoSaid : Prop := curveCodesUptoRow.holds Try.pinned (OpenSpec.upto curveCodesSpec)

end Rows
end Go.Proofs.Ytdeihgcgglhhcaa
