/-
  DERIVED. GIVEN WITH THE SEED: THE CARDS: each row of YtpbbjmfhcgcldaaDoorRows.lean that lists a variable, with what it lists TIED to the program's text (the seventh form; the later family's looks); each row that meets fmt, with fmt's text TOLD by the authors' own Lean function (tested against real Go, not proved from fmt's source: count such statements apart). THE CARD IS WHAT COUNTS. Prove the row's statement (the work); the ties are given (YtpbbjmfhcgcldaaDoorTie.lean); close each card by the builder's one call (the guide's Derived/Test/ToyasCard.lean, 'card_holds'). Laid BY PROGRAM, IN A SANDBOX (cutbox-door.mjs). By AI agents, Wed Nov 11 2026. No macro, syntax, notation, axiom, sorry.
-/
import Derived.Test.YtpbbjmfhcgcldaaDoorRows
import GoSem.ClaimSeven
namespace Go.Proofs.YtpbbjmfhcgcldaaDoor
namespace Rows

/-- THE TIED CARD OF 'godownlaw29.RequestTells'. -/
def requestTellsCard : Claim7 := { stood := { row := requestTellsRow, standIns := [], harness := (true, "dca27a6f4e12ec301625772a22ae4ad916af8b2c652282ec42f986d05fdd11d5"), looks := false }, kinds := [], alts := [], laidByText := true, laidKinds := [.listed, .data], laidTests := true, laidLooks := .later }
def RequestTellsCardSaid : Prop := Claim7.holds Tryd.pinned (.plain (OpenSpec.ofChange requestTellsSpec)) requestTellsCard

/-- THE TIED CARD OF 'godownlaw29.RequestBack'. -/
def requestBackCard : Claim7 := { stood := { row := requestBackRow, standIns := [], harness := (true, "dca27a6f4e12ec301625772a22ae4ad916af8b2c652282ec42f986d05fdd11d5"), looks := false }, kinds := [], alts := [], laidByText := true, laidKinds := [.listed, .data], laidTests := true, laidLooks := .later }
def RequestBackCardSaid : Prop := Claim7.holds Tryd.pinned (.plain (OpenSpec.ofChange requestBackSpec)) requestBackCard

/-- THE TIED CARD OF 'godownlaw29.RequestOctets'. -/
def requestOctetsCard : Claim7 := { stood := { row := requestOctetsRow, standIns := [], harness := (true, "dca27a6f4e12ec301625772a22ae4ad916af8b2c652282ec42f986d05fdd11d5"), looks := false }, kinds := [], alts := [], laidByText := true, laidKinds := [.listed, .data], laidTests := true, laidLooks := .later }
def RequestOctetsCardSaid : Prop := Claim7.holds Tryd.pinned (.plain (OpenSpec.ofChange requestOctetsSpec)) requestOctetsCard

/-- THE SECOND FORM's CARD OF 'godownlaw29.RequestTells'. -/
def requestTellsUptoCard : Claim7 := { stood := { row := requestTellsUptoRow, standIns := [], harness := (true, "dca27a6f4e12ec301625772a22ae4ad916af8b2c652282ec42f986d05fdd11d5"), looks := false }, kinds := [], alts := [], laidByText := true, laidKinds := [.listed, .data], laidTests := true, laidLooks := .later }
def RequestTellsUptoCardSaid : Prop := Claim7.holds Tryd.pinned (.plain (OpenSpec.upto requestTellsSpec)) requestTellsUptoCard

/-- THE SECOND FORM's CARD OF 'godownlaw29.RequestBack'. -/
def requestBackUptoCard : Claim7 := { stood := { row := requestBackUptoRow, standIns := [], harness := (true, "dca27a6f4e12ec301625772a22ae4ad916af8b2c652282ec42f986d05fdd11d5"), looks := false }, kinds := [], alts := [], laidByText := true, laidKinds := [.listed, .data], laidTests := true, laidLooks := .later }
def RequestBackUptoCardSaid : Prop := Claim7.holds Tryd.pinned (.plain (OpenSpec.upto requestBackSpec)) requestBackUptoCard

/-- THE SECOND FORM's CARD OF 'godownlaw29.RequestOctets'. -/
def requestOctetsUptoCard : Claim7 := { stood := { row := requestOctetsUptoRow, standIns := [], harness := (true, "dca27a6f4e12ec301625772a22ae4ad916af8b2c652282ec42f986d05fdd11d5"), looks := false }, kinds := [], alts := [], laidByText := true, laidKinds := [.listed, .data], laidTests := true, laidLooks := .later }
def RequestOctetsUptoCardSaid : Prop := Claim7.holds Tryd.pinned (.plain (OpenSpec.upto requestOctetsSpec)) requestOctetsUptoCard
end Rows
end Go.Proofs.YtpbbjmfhcgcldaaDoor
