/-
  No cell of these rows narrows 'for every input' (looked for: loops, veiled, ifaces, maps, wideKeys, modest, calm, conditions, laid).
  DERIVED. THE GIVEN ROWS OF THIS SEAT. 9 by the template 'for every input the law returns true; each argument reads behind the call as it read before'; 0 by the template 'total and deterministic' (their statements: YtigefimonifpmaaTotals.lean).
  GIVEN WITH THE SEED: the statements are not yours to turn. If you find one false, say at which input.
  Laid BY PROGRAM, IN A SANDBOX (cutbox-rows.mjs): the forced cells as the released guide's own fill.sh prints them over the translation 3739816d55f55f04… (all of the seat's roots in one cut). By AI agents, Wed Nov 11 2026. No macro, syntax, notation, axiom, sorry.
-/
import Derived.Test.YtigefimonifpmaaChecked
import GoSem.Claim
import GoSem.ClaimJoined
import GoSem.ClaimMapViews
import Derived.JoinedTies
import Derived.KernelRfl
namespace Go.Proofs.Ytigefimonifpmaa
/- THE CELL 'sum', in the pinned program and in every row, IS THE sha256 OF THE DUMP (.gsa) THAT YtigefimonifpmaaProg.lean LOADS. Nothing in Lean hashes anything: it is a label: what it is worth is what the hold of that sum in a sandbox is worth. -/
noncomputable def Try.pinned : Pinned := { name := "ytigefimonifpmaa", sum := "3739816d55f55f04433cc952ce88e4dd8a10caaf84822a6d9aefa331d23eab21", checked := Try.checked }
namespace Rows
def none {H : Type} : Left H := { results := [], args := [] }

/-- 'chancerylaw04.ClockDays': WHATEVER THE INPUT: true; the input reads as it did. -/
def clockDaysSpec : ChangeSpec := { name := "clockDays", fn := fun _ => fun
  | [d1, d2] => { results := [.lit (.bool true)], args := [d1, d2] }
  | _ => none }
def clockDaysRow : OpenClaim := { program := "ytigefimonifpmaa", sum := "3739816d55f55f04433cc952ce88e4dd8a10caaf84822a6d9aefa331d23eab21", func := "chancery/chancerylaw04.ClockDays", spec := "clockDays", apart := false }
def ClockDaysSaid : Prop := clockDaysRow.holds Try.pinned (OpenSpec.ofChange clockDaysSpec)

/-- ITS FALSE NEIGHBOUR: 'it returns false'. Refute it at one input. -/
def clockDaysWrong : ChangeSpec := { name := "clockDays", fn := fun _ => fun
  | [d1, d2] => { results := [.lit (.bool false)], args := [d1, d2] }
  | _ => none }
def ClockDaysWrongFalsely : Prop := clockDaysRow.holds Try.pinned (OpenSpec.ofChange clockDaysWrong)

/-- 'chancerylaw04.ClockSeconds': WHATEVER THE INPUT: true; the input reads as it did. -/
def clockSecondsSpec : ChangeSpec := { name := "clockSeconds", fn := fun _ => fun
  | [d] => { results := [.lit (.bool true)], args := [d] }
  | _ => none }
def clockSecondsRow : OpenClaim := { program := "ytigefimonifpmaa", sum := "3739816d55f55f04433cc952ce88e4dd8a10caaf84822a6d9aefa331d23eab21", func := "chancery/chancerylaw04.ClockSeconds", spec := "clockSeconds", apart := false }
def ClockSecondsSaid : Prop := clockSecondsRow.holds Try.pinned (OpenSpec.ofChange clockSecondsSpec)

/-- ITS FALSE NEIGHBOUR: 'it returns false'. Refute it at one input. -/
def clockSecondsWrong : ChangeSpec := { name := "clockSeconds", fn := fun _ => fun
  | [d] => { results := [.lit (.bool false)], args := [d] }
  | _ => none }
def ClockSecondsWrongFalsely : Prop := clockSecondsRow.holds Try.pinned (OpenSpec.ofChange clockSecondsWrong)

/-- 'chancerylaw04.ClockNext': WHATEVER THE INPUT: true; the input reads as it did. -/
def clockNextSpec : ChangeSpec := { name := "clockNext", fn := fun _ => fun
  | [d] => { results := [.lit (.bool true)], args := [d] }
  | _ => none }
def clockNextRow : OpenClaim := { program := "ytigefimonifpmaa", sum := "3739816d55f55f04433cc952ce88e4dd8a10caaf84822a6d9aefa331d23eab21", func := "chancery/chancerylaw04.ClockNext", spec := "clockNext", apart := false }
def ClockNextSaid : Prop := clockNextRow.holds Try.pinned (OpenSpec.ofChange clockNextSpec)

/-- ITS FALSE NEIGHBOUR: 'it returns false'. Refute it at one input. -/
def clockNextWrong : ChangeSpec := { name := "clockNext", fn := fun _ => fun
  | [d] => { results := [.lit (.bool false)], args := [d] }
  | _ => none }
def ClockNextWrongFalsely : Prop := clockNextRow.holds Try.pinned (OpenSpec.ofChange clockNextWrong)

/-- 'chancerylaw04.ClockOrder': WHATEVER THE INPUT: true; the input reads as it did. -/
def clockOrderSpec : ChangeSpec := { name := "clockOrder", fn := fun _ => fun
  | [d1, d2] => { results := [.lit (.bool true)], args := [d1, d2] }
  | _ => none }
def clockOrderRow : OpenClaim := { program := "ytigefimonifpmaa", sum := "3739816d55f55f04433cc952ce88e4dd8a10caaf84822a6d9aefa331d23eab21", func := "chancery/chancerylaw04.ClockOrder", spec := "clockOrder", apart := false }
def ClockOrderSaid : Prop := clockOrderRow.holds Try.pinned (OpenSpec.ofChange clockOrderSpec)

/-- ITS FALSE NEIGHBOUR: 'it returns false'. Refute it at one input. -/
def clockOrderWrong : ChangeSpec := { name := "clockOrder", fn := fun _ => fun
  | [d1, d2] => { results := [.lit (.bool false)], args := [d1, d2] }
  | _ => none }
def ClockOrderWrongFalsely : Prop := clockOrderRow.holds Try.pinned (OpenSpec.ofChange clockOrderWrong)

/-- 'chancerylaw04.ClockCivils': WHATEVER THE INPUT: true; the input reads as it did. -/
def clockCivilsSpec : ChangeSpec := { name := "clockCivils", fn := fun _ => fun
  | [d] => { results := [.lit (.bool true)], args := [d] }
  | _ => none }
def clockCivilsRow : OpenClaim := { program := "ytigefimonifpmaa", sum := "3739816d55f55f04433cc952ce88e4dd8a10caaf84822a6d9aefa331d23eab21", func := "chancery/chancerylaw04.ClockCivils", spec := "clockCivils", apart := false }
def ClockCivilsSaid : Prop := clockCivilsRow.holds Try.pinned (OpenSpec.ofChange clockCivilsSpec)

/-- ITS FALSE NEIGHBOUR: 'it returns false'. Refute it at one input. -/
def clockCivilsWrong : ChangeSpec := { name := "clockCivils", fn := fun _ => fun
  | [d] => { results := [.lit (.bool false)], args := [d] }
  | _ => none }
def ClockCivilsWrongFalsely : Prop := clockCivilsRow.holds Try.pinned (OpenSpec.ofChange clockCivilsWrong)

/-- 'chancerylaw04.ClockPuts': WHATEVER THE INPUT: true; the input reads as it did. -/
def clockPutsSpec : ChangeSpec := { name := "clockPuts", fn := fun _ => fun
  | [d] => { results := [.lit (.bool true)], args := [d] }
  | _ => none }
def clockPutsRow : OpenClaim := { program := "ytigefimonifpmaa", sum := "3739816d55f55f04433cc952ce88e4dd8a10caaf84822a6d9aefa331d23eab21", func := "chancery/chancerylaw04.ClockPuts", spec := "clockPuts", apart := false }
def ClockPutsSaid : Prop := clockPutsRow.holds Try.pinned (OpenSpec.ofChange clockPutsSpec)

/-- ITS FALSE NEIGHBOUR: 'it returns false'. Refute it at one input. -/
def clockPutsWrong : ChangeSpec := { name := "clockPuts", fn := fun _ => fun
  | [d] => { results := [.lit (.bool false)], args := [d] }
  | _ => none }
def ClockPutsWrongFalsely : Prop := clockPutsRow.holds Try.pinned (OpenSpec.ofChange clockPutsWrong)

/-- 'chancerylaw04.ClockTakes': WHATEVER THE INPUT: true; the input reads as it did. -/
def clockTakesSpec : ChangeSpec := { name := "clockTakes", fn := fun _ => fun
  | [d1, d2] => { results := [.lit (.bool true)], args := [d1, d2] }
  | _ => none }
def clockTakesRow : OpenClaim := { program := "ytigefimonifpmaa", sum := "3739816d55f55f04433cc952ce88e4dd8a10caaf84822a6d9aefa331d23eab21", func := "chancery/chancerylaw04.ClockTakes", spec := "clockTakes", apart := false }
def ClockTakesSaid : Prop := clockTakesRow.holds Try.pinned (OpenSpec.ofChange clockTakesSpec)

/-- ITS FALSE NEIGHBOUR: 'it returns false'. Refute it at one input. -/
def clockTakesWrong : ChangeSpec := { name := "clockTakes", fn := fun _ => fun
  | [d1, d2] => { results := [.lit (.bool false)], args := [d1, d2] }
  | _ => none }
def ClockTakesWrongFalsely : Prop := clockTakesRow.holds Try.pinned (OpenSpec.ofChange clockTakesWrong)

/-- 'chancerylaw04.ClockBack': WHATEVER THE INPUT: true; the input reads as it did. -/
def clockBackSpec : ChangeSpec := { name := "clockBack", fn := fun _ => fun
  | [d] => { results := [.lit (.bool true)], args := [d] }
  | _ => none }
def clockBackRow : OpenClaim := { program := "ytigefimonifpmaa", sum := "3739816d55f55f04433cc952ce88e4dd8a10caaf84822a6d9aefa331d23eab21", func := "chancery/chancerylaw04.ClockBack", spec := "clockBack", apart := false }
def ClockBackSaid : Prop := clockBackRow.holds Try.pinned (OpenSpec.ofChange clockBackSpec)

/-- ITS FALSE NEIGHBOUR: 'it returns false'. Refute it at one input. -/
def clockBackWrong : ChangeSpec := { name := "clockBack", fn := fun _ => fun
  | [d] => { results := [.lit (.bool false)], args := [d] }
  | _ => none }
def ClockBackWrongFalsely : Prop := clockBackRow.holds Try.pinned (OpenSpec.ofChange clockBackWrong)

/-- 'chancerylaw04.ClockOnce': WHATEVER THE INPUT: true; the input reads as it did. -/
def clockOnceSpec : ChangeSpec := { name := "clockOnce", fn := fun _ => fun
  | [d1, d2] => { results := [.lit (.bool true)], args := [d1, d2] }
  | _ => none }
def clockOnceRow : OpenClaim := { program := "ytigefimonifpmaa", sum := "3739816d55f55f04433cc952ce88e4dd8a10caaf84822a6d9aefa331d23eab21", func := "chancery/chancerylaw04.ClockOnce", spec := "clockOnce", apart := false }
def ClockOnceSaid : Prop := clockOnceRow.holds Try.pinned (OpenSpec.ofChange clockOnceSpec)

/-- ITS FALSE NEIGHBOUR: 'it returns false'. Refute it at one input. -/
def clockOnceWrong : ChangeSpec := { name := "clockOnce", fn := fun _ => fun
  | [d1, d2] => { results := [.lit (.bool false)], args := [d1, d2] }
  | _ => none }
def ClockOnceWrongFalsely : Prop := clockOnceRow.holds Try.pinned (OpenSpec.ofChange clockOnceWrong)

/- THE SECOND FORM. 'bulk': how many values and letters a reading holds, each counted each time it is reached (what is shared counts as often as it is met; a slice's spare places count too). A statement '..UptoSaid' is the law's where the arguments, and the package variables that the reading takes, are together of bulk at most 1048576: NARROWER than '..Said'. Prove '..Said' where nothing that the law and all that it calls make is longer than what came in: it says more and counts as full. Else prove '..UptoSaid'. A law counts once. -/
mutual
def uptoBulk {H : Type} : DataW H → Nat
  | .lit (.string bytes) => bytes.length + 1
  | .lit _ => 1
  | .nil => 1
  | .ptr d => uptoBulk d + 1
  | .slice elems spare => uptoBulkAll elems + uptoBulkAll spare + 1
  | .agg parts => uptoBulkAll parts + 1
  | .iface _ d => uptoBulk d + 1
  | .map entries => uptoBulkEntries entries + 1
  | .held _ => 1
def uptoBulkAll {H : Type} : List (DataW H) → Nat
  | [] => 0
  | d :: r => uptoBulk d + uptoBulkAll r
def uptoBulkEntries {H : Type} : List (Lit × DataW H) → Nat
  | [] => 0
  | x :: r => uptoBulkEntry x + uptoBulkEntries r
def uptoBulkEntry {H : Type} : Lit × DataW H → Nat
  | (.string bytes, d) => bytes.length + uptoBulk d + 1
  | (_, d) => uptoBulk d + 1
 end
def uptoSmall : (H : Type) → List (DataW H) → Bool := fun _ ds => decide (uptoBulkAll ds ≤ 1048576)
def OpenSpec.upto (s : _root_.Go.ChangeSpec) : _root_.Go.OpenSpec := { _root_.Go.OpenSpec.ofChange s with cond := some uptoSmall }

/-- 'chancerylaw04.ClockDays', WHERE WHAT IT READS IS OF BULK AT MOST 1048576: true; the input reads as it did. -/
def clockDaysUptoRow : OpenClaim := { program := "ytigefimonifpmaa", sum := "3739816d55f55f04433cc952ce88e4dd8a10caaf84822a6d9aefa331d23eab21", func := "chancery/chancerylaw04.ClockDays", spec := "clockDays", apart := false, narrowed := true }
def ClockDaysUptoSaid : Prop := clockDaysUptoRow.holds Try.pinned (OpenSpec.upto clockDaysSpec)

/-- 'chancerylaw04.ClockSeconds', WHERE WHAT IT READS IS OF BULK AT MOST 1048576: true; the input reads as it did. -/
def clockSecondsUptoRow : OpenClaim := { program := "ytigefimonifpmaa", sum := "3739816d55f55f04433cc952ce88e4dd8a10caaf84822a6d9aefa331d23eab21", func := "chancery/chancerylaw04.ClockSeconds", spec := "clockSeconds", apart := false, narrowed := true }
def ClockSecondsUptoSaid : Prop := clockSecondsUptoRow.holds Try.pinned (OpenSpec.upto clockSecondsSpec)

/-- 'chancerylaw04.ClockNext', WHERE WHAT IT READS IS OF BULK AT MOST 1048576: true; the input reads as it did. -/
def clockNextUptoRow : OpenClaim := { program := "ytigefimonifpmaa", sum := "3739816d55f55f04433cc952ce88e4dd8a10caaf84822a6d9aefa331d23eab21", func := "chancery/chancerylaw04.ClockNext", spec := "clockNext", apart := false, narrowed := true }
def ClockNextUptoSaid : Prop := clockNextUptoRow.holds Try.pinned (OpenSpec.upto clockNextSpec)

/-- 'chancerylaw04.ClockOrder', WHERE WHAT IT READS IS OF BULK AT MOST 1048576: true; the input reads as it did. -/
def clockOrderUptoRow : OpenClaim := { program := "ytigefimonifpmaa", sum := "3739816d55f55f04433cc952ce88e4dd8a10caaf84822a6d9aefa331d23eab21", func := "chancery/chancerylaw04.ClockOrder", spec := "clockOrder", apart := false, narrowed := true }
def ClockOrderUptoSaid : Prop := clockOrderUptoRow.holds Try.pinned (OpenSpec.upto clockOrderSpec)

/-- 'chancerylaw04.ClockCivils', WHERE WHAT IT READS IS OF BULK AT MOST 1048576: true; the input reads as it did. -/
def clockCivilsUptoRow : OpenClaim := { program := "ytigefimonifpmaa", sum := "3739816d55f55f04433cc952ce88e4dd8a10caaf84822a6d9aefa331d23eab21", func := "chancery/chancerylaw04.ClockCivils", spec := "clockCivils", apart := false, narrowed := true }
def ClockCivilsUptoSaid : Prop := clockCivilsUptoRow.holds Try.pinned (OpenSpec.upto clockCivilsSpec)

/-- 'chancerylaw04.ClockPuts', WHERE WHAT IT READS IS OF BULK AT MOST 1048576: true; the input reads as it did. -/
def clockPutsUptoRow : OpenClaim := { program := "ytigefimonifpmaa", sum := "3739816d55f55f04433cc952ce88e4dd8a10caaf84822a6d9aefa331d23eab21", func := "chancery/chancerylaw04.ClockPuts", spec := "clockPuts", apart := false, narrowed := true }
def ClockPutsUptoSaid : Prop := clockPutsUptoRow.holds Try.pinned (OpenSpec.upto clockPutsSpec)

/-- 'chancerylaw04.ClockTakes', WHERE WHAT IT READS IS OF BULK AT MOST 1048576: true; the input reads as it did. -/
def clockTakesUptoRow : OpenClaim := { program := "ytigefimonifpmaa", sum := "3739816d55f55f04433cc952ce88e4dd8a10caaf84822a6d9aefa331d23eab21", func := "chancery/chancerylaw04.ClockTakes", spec := "clockTakes", apart := false, narrowed := true }
def ClockTakesUptoSaid : Prop := clockTakesUptoRow.holds Try.pinned (OpenSpec.upto clockTakesSpec)

/-- 'chancerylaw04.ClockBack', WHERE WHAT IT READS IS OF BULK AT MOST 1048576: true; the input reads as it did. -/
def clockBackUptoRow : OpenClaim := { program := "ytigefimonifpmaa", sum := "3739816d55f55f04433cc952ce88e4dd8a10caaf84822a6d9aefa331d23eab21", func := "chancery/chancerylaw04.ClockBack", spec := "clockBack", apart := false, narrowed := true }
def ClockBackUptoSaid : Prop := clockBackUptoRow.holds Try.pinned (OpenSpec.upto clockBackSpec)

/-- 'chancerylaw04.ClockOnce', WHERE WHAT IT READS IS OF BULK AT MOST 1048576: true; the input reads as it did. -/
def clockOnceUptoRow : OpenClaim := { program := "ytigefimonifpmaa", sum := "3739816d55f55f04433cc952ce88e4dd8a10caaf84822a6d9aefa331d23eab21", func := "chancery/chancerylaw04.ClockOnce", spec := "clockOnce", apart := false, narrowed := true }
def ClockOnceUptoSaid : Prop := clockOnceUptoRow.holds Try.pinned (OpenSpec.upto clockOnceSpec)

end Rows
end Go.Proofs.Ytigefimonifpmaa
