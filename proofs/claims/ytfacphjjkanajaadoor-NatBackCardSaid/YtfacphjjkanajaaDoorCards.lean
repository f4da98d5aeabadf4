/-
  DERIVED. GIVEN WITH THE SEED: THE CARDS: each row of YtfacphjjkanajaaDoorRows.lean that lists a variable, with what it lists TIED to the program's text (the seventh form; the later family's looks); each row that meets fmt, with fmt's text TOLD by the authors' own Lean function (tested against real Go, not proved from fmt's source: count such statements apart). THE CARD IS WHAT COUNTS. Prove the row's statement (the work); the ties are given (YtfacphjjkanajaaDoorTie.lean); close each card by the builder's one call (the guide's Derived/Test/ToyasCard.lean, 'card_holds'). Laid BY PROGRAM, IN A SANDBOX (cutbox-door.mjs). By AI agents, Wed Nov 11 2026. No macro, syntax, notation, axiom, sorry.
-/
import Derived.Test.YtfacphjjkanajaaDoorRows
import GoSem.ClaimSeven
namespace Go.Proofs.YtfacphjjkanajaaDoor
namespace Rows

/-- THE TIED CARD OF 'chancerylaw06.NatBytes'. -/
def natBytesCard : Claim7 := { stood := { row := natBytesRow, standIns := [], harness := (true, "f9ee039a511e96716ac252d11df02f686f24c7044659d3a3a296c6f1290d89e5"), looks := false }, kinds := [], alts := [], laidByText := true, laidKinds := [.data, .pinned], laidTests := true, laidLooks := .later }
def NatBytesCardSaid : Prop := Claim7.holds Tryd.pinned (.plain (OpenSpec.ofChange natBytesSpec)) natBytesCard

/-- THE TIED CARD OF 'chancerylaw06.NatBack'. -/
def natBackCard : Claim7 := { stood := { row := natBackRow, standIns := [], harness := (true, "f9ee039a511e96716ac252d11df02f686f24c7044659d3a3a296c6f1290d89e5"), looks := false }, kinds := [], alts := [], laidByText := true, laidKinds := [.data, .pinned], laidTests := true, laidLooks := .later }
def NatBackCardSaid : Prop := Claim7.holds Tryd.pinned (.plain (OpenSpec.ofChange natBackSpec)) natBackCard

/-- THE SECOND FORM's CARD OF 'chancerylaw06.NatBytes'. -/
def natBytesUptoCard : Claim7 := { stood := { row := natBytesUptoRow, standIns := [], harness := (true, "f9ee039a511e96716ac252d11df02f686f24c7044659d3a3a296c6f1290d89e5"), looks := false }, kinds := [], alts := [], laidByText := true, laidKinds := [.data, .pinned], laidTests := true, laidLooks := .later }
def NatBytesUptoCardSaid : Prop := Claim7.holds Tryd.pinned (.plain (OpenSpec.upto natBytesSpec)) natBytesUptoCard

/-- THE SECOND FORM's CARD OF 'chancerylaw06.NatBack'. -/
def natBackUptoCard : Claim7 := { stood := { row := natBackUptoRow, standIns := [], harness := (true, "f9ee039a511e96716ac252d11df02f686f24c7044659d3a3a296c6f1290d89e5"), looks := false }, kinds := [], alts := [], laidByText := true, laidKinds := [.data, .pinned], laidTests := true, laidLooks := .later }
def NatBackUptoCardSaid : Prop := Claim7.holds Tryd.pinned (.plain (OpenSpec.upto natBackSpec)) natBackUptoCard
end Rows
end Go.Proofs.YtfacphjjkanajaaDoor
