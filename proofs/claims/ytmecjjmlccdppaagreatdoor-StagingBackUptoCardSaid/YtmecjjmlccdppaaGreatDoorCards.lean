/-
  DERIVED. GIVEN WITH THE SEED: THE CARDS: each row of YtmecjjmlccdppaaGreatDoorRows.lean that lists a variable, with what it lists TIED to the program's text (the seventh form; the later family's looks); each row that meets fmt, with fmt's text TOLD by the authors' own Lean function (tested against real Go, not proved from fmt's source: count such statements apart). THE CARD IS WHAT COUNTS. Prove the row's statement (the work); the ties are given (YtmecjjmlccdppaaGreatDoorTie.lean); close each card by the builder's one call (the guide's Derived/Test/ToyasCard.lean, 'card_holds'). Laid BY PROGRAM, IN A SANDBOX (cutbox-door.mjs). By AI agents, Wed Nov 11 2026. No macro, syntax, notation, axiom, sorry.
-/
import Derived.Test.YtmecjjmlccdppaaGreatDoorRows
import GoSem.ClaimSeven
namespace Go.Proofs.YtmecjjmlccdppaaGreatDoor
namespace Rows

/-- THE TIED CARD OF 'godownlaw22.StagingTells'. -/
def stagingTellsCard : Claim7 := { stood := { row := stagingTellsRow, standIns := [], harness := (true, "c17755f11932b5dc184028cc8ce3ead0319de3192300526399be0e06dc2b4afe"), looks := true }, kinds := [], alts := [], laidByText := true, laidKinds := [.data, .pinned], laidTests := true, laidLooks := .later }
def StagingTellsCardSaid : Prop := Claim7.holds Tryz.pinned (.plain (OpenSpec.ofChange stagingTellsSpec)) stagingTellsCard

/-- THE TIED CARD OF 'godownlaw22.StagingOwn'. -/
def stagingOwnCard : Claim7 := { stood := { row := stagingOwnRow, standIns := [], harness := (true, "c17755f11932b5dc184028cc8ce3ead0319de3192300526399be0e06dc2b4afe"), looks := true }, kinds := [], alts := [], laidByText := true, laidKinds := [.data, .pinned], laidTests := true, laidLooks := .later }
def StagingOwnCardSaid : Prop := Claim7.holds Tryz.pinned (.plain (OpenSpec.ofChange stagingOwnSpec)) stagingOwnCard

/-- THE TIED CARD OF 'godownlaw22.StagingSnaps'. -/
def stagingSnapsCard : Claim7 := { stood := { row := stagingSnapsRow, standIns := [], harness := (true, "c17755f11932b5dc184028cc8ce3ead0319de3192300526399be0e06dc2b4afe"), looks := true }, kinds := [], alts := [], laidByText := true, laidKinds := [.data, .pinned], laidTests := true, laidLooks := .later }
def StagingSnapsCardSaid : Prop := Claim7.holds Tryz.pinned (.plain (OpenSpec.ofChange stagingSnapsSpec)) stagingSnapsCard

/-- THE TIED CARD OF 'godownlaw22.StagingBack'. -/
def stagingBackCard : Claim7 := { stood := { row := stagingBackRow, standIns := [], harness := (true, "c17755f11932b5dc184028cc8ce3ead0319de3192300526399be0e06dc2b4afe"), looks := true }, kinds := [], alts := [], laidByText := true, laidKinds := [.data, .pinned], laidTests := true, laidLooks := .later }
def StagingBackCardSaid : Prop := Claim7.holds Tryz.pinned (.plain (OpenSpec.ofChange stagingBackSpec)) stagingBackCard

/-- THE SECOND FORM's CARD OF 'godownlaw22.StagingTells'. -/
def stagingTellsUptoCard : Claim7 := { stood := { row := stagingTellsUptoRow, standIns := [], harness := (true, "c17755f11932b5dc184028cc8ce3ead0319de3192300526399be0e06dc2b4afe"), looks := true }, kinds := [], alts := [], laidByText := true, laidKinds := [.data, .pinned], laidTests := true, laidLooks := .later }
def StagingTellsUptoCardSaid : Prop := Claim7.holds Tryz.pinned (.plain (OpenSpec.upto stagingTellsSpec)) stagingTellsUptoCard

/-- THE SECOND FORM's CARD OF 'godownlaw22.StagingOwn'. -/
def stagingOwnUptoCard : Claim7 := { stood := { row := stagingOwnUptoRow, standIns := [], harness := (true, "c17755f11932b5dc184028cc8ce3ead0319de3192300526399be0e06dc2b4afe"), looks := true }, kinds := [], alts := [], laidByText := true, laidKinds := [.data, .pinned], laidTests := true, laidLooks := .later }
def StagingOwnUptoCardSaid : Prop := Claim7.holds Tryz.pinned (.plain (OpenSpec.upto stagingOwnSpec)) stagingOwnUptoCard

/-- THE SECOND FORM's CARD OF 'godownlaw22.StagingSnaps'. -/
def stagingSnapsUptoCard : Claim7 := { stood := { row := stagingSnapsUptoRow, standIns := [], harness := (true, "c17755f11932b5dc184028cc8ce3ead0319de3192300526399be0e06dc2b4afe"), looks := true }, kinds := [], alts := [], laidByText := true, laidKinds := [.data, .pinned], laidTests := true, laidLooks := .later }
def StagingSnapsUptoCardSaid : Prop := Claim7.holds Tryz.pinned (.plain (OpenSpec.upto stagingSnapsSpec)) stagingSnapsUptoCard

/-- THE SECOND FORM's CARD OF 'godownlaw22.StagingBack'. -/
def stagingBackUptoCard : Claim7 := { stood := { row := stagingBackUptoRow, standIns := [], harness := (true, "c17755f11932b5dc184028cc8ce3ead0319de3192300526399be0e06dc2b4afe"), looks := true }, kinds := [], alts := [], laidByText := true, laidKinds := [.data, .pinned], laidTests := true, laidLooks := .later }
def StagingBackUptoCardSaid : Prop := Claim7.holds Tryz.pinned (.plain (OpenSpec.upto stagingBackSpec)) stagingBackUptoCard
end Rows
end Go.Proofs.YtmecjjmlccdppaaGreatDoor
