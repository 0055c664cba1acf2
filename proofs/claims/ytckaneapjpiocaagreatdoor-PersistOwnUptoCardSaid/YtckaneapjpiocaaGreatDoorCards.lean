/-
  DERIVED. GIVEN WITH THE SEED: THE CARDS: each row of YtckaneapjpiocaaGreatDoorRows.lean that lists a variable, with what it lists TIED to the program's text (the seventh form; the later family's looks); each row that meets fmt, with fmt's text TOLD by the authors' own Lean function (tested against real Go, not proved from fmt's source: count such statements apart). THE CARD IS WHAT COUNTS. Prove the row's statement (the work); the ties are given (YtckaneapjpiocaaGreatDoorTie.lean); close each card by the builder's one call (the guide's Derived/Test/ToyasCard.lean, 'card_holds'). Laid BY PROGRAM, IN A SANDBOX (cutbox-door.mjs). By AI agents, Wed Nov 11 2026. No macro, syntax, notation, axiom, sorry.
-/
import Derived.Test.YtckaneapjpiocaaGreatDoorRows
import GoSem.ClaimSeven
namespace Go.Proofs.YtckaneapjpiocaaGreatDoor
namespace Rows

/-- THE TIED CARD OF 'godownlaw25.TenantPages'. -/
def tenantPagesCard : Claim7 := { stood := { row := tenantPagesRow, standIns := [], harness := (true, "671f9f2c4b273ea7f950265b9323da495952d46b966c0c9e52a844975e3b5fef"), looks := true }, kinds := [], alts := [], laidByText := true, laidKinds := [.data, .pinned], laidTests := true, laidLooks := .later }
def TenantPagesCardSaid : Prop := Claim7.holds Tryz.pinned (.plain (OpenSpec.ofChange tenantPagesSpec)) tenantPagesCard

/-- THE TIED CARD OF 'godownlaw25.TenantBack'. -/
def tenantBackCard : Claim7 := { stood := { row := tenantBackRow, standIns := [], harness := (true, "671f9f2c4b273ea7f950265b9323da495952d46b966c0c9e52a844975e3b5fef"), looks := true }, kinds := [], alts := [], laidByText := true, laidKinds := [.data, .pinned], laidTests := true, laidLooks := .later }
def TenantBackCardSaid : Prop := Claim7.holds Tryz.pinned (.plain (OpenSpec.ofChange tenantBackSpec)) tenantBackCard

/-- THE TIED CARD OF 'godownlaw25.TenantReads'. -/
def tenantReadsCard : Claim7 := { stood := { row := tenantReadsRow, standIns := [], harness := (true, "671f9f2c4b273ea7f950265b9323da495952d46b966c0c9e52a844975e3b5fef"), looks := true }, kinds := [], alts := [], laidByText := true, laidKinds := [.data, .pinned], laidTests := true, laidLooks := .later }
def TenantReadsCardSaid : Prop := Claim7.holds Tryz.pinned (.plain (OpenSpec.ofChange tenantReadsSpec)) tenantReadsCard

/-- THE TIED CARD OF 'godownlaw25.TenantOwn'. -/
def tenantOwnCard : Claim7 := { stood := { row := tenantOwnRow, standIns := [], harness := (true, "671f9f2c4b273ea7f950265b9323da495952d46b966c0c9e52a844975e3b5fef"), looks := true }, kinds := [], alts := [], laidByText := true, laidKinds := [.data, .pinned], laidTests := true, laidLooks := .later }
def TenantOwnCardSaid : Prop := Claim7.holds Tryz.pinned (.plain (OpenSpec.ofChange tenantOwnSpec)) tenantOwnCard

/-- THE TIED CARD OF 'godownlaw32.PersistPages'. -/
def persistPagesCard : Claim7 := { stood := { row := persistPagesRow, standIns := [], harness := (true, "671f9f2c4b273ea7f950265b9323da495952d46b966c0c9e52a844975e3b5fef"), looks := true }, kinds := [], alts := [], laidByText := true, laidKinds := [.data, .pinned], laidTests := true, laidLooks := .later }
def PersistPagesCardSaid : Prop := Claim7.holds Tryz.pinned (.plain (OpenSpec.ofChange persistPagesSpec)) persistPagesCard

/-- THE TIED CARD OF 'godownlaw32.PersistBack'. -/
def persistBackCard : Claim7 := { stood := { row := persistBackRow, standIns := [], harness := (true, "671f9f2c4b273ea7f950265b9323da495952d46b966c0c9e52a844975e3b5fef"), looks := true }, kinds := [], alts := [], laidByText := true, laidKinds := [.data, .pinned], laidTests := true, laidLooks := .later }
def PersistBackCardSaid : Prop := Claim7.holds Tryz.pinned (.plain (OpenSpec.ofChange persistBackSpec)) persistBackCard

/-- THE TIED CARD OF 'godownlaw32.PersistReads'. -/
def persistReadsCard : Claim7 := { stood := { row := persistReadsRow, standIns := [], harness := (true, "671f9f2c4b273ea7f950265b9323da495952d46b966c0c9e52a844975e3b5fef"), looks := true }, kinds := [], alts := [], laidByText := true, laidKinds := [.data, .pinned], laidTests := true, laidLooks := .later }
def PersistReadsCardSaid : Prop := Claim7.holds Tryz.pinned (.plain (OpenSpec.ofChange persistReadsSpec)) persistReadsCard

/-- THE TIED CARD OF 'godownlaw32.PersistOwn'. -/
def persistOwnCard : Claim7 := { stood := { row := persistOwnRow, standIns := [], harness := (true, "671f9f2c4b273ea7f950265b9323da495952d46b966c0c9e52a844975e3b5fef"), looks := true }, kinds := [], alts := [], laidByText := true, laidKinds := [.data, .pinned], laidTests := true, laidLooks := .later }
def PersistOwnCardSaid : Prop := Claim7.holds Tryz.pinned (.plain (OpenSpec.ofChange persistOwnSpec)) persistOwnCard

/-- THE SECOND FORM's CARD OF 'godownlaw25.TenantPages'. -/
def tenantPagesUptoCard : Claim7 := { stood := { row := tenantPagesUptoRow, standIns := [], harness := (true, "671f9f2c4b273ea7f950265b9323da495952d46b966c0c9e52a844975e3b5fef"), looks := true }, kinds := [], alts := [], laidByText := true, laidKinds := [.data, .pinned], laidTests := true, laidLooks := .later }
def TenantPagesUptoCardSaid : Prop := Claim7.holds Tryz.pinned (.plain (OpenSpec.upto tenantPagesSpec)) tenantPagesUptoCard

/-- THE SECOND FORM's CARD OF 'godownlaw25.TenantBack'. -/
def tenantBackUptoCard : Claim7 := { stood := { row := tenantBackUptoRow, standIns := [], harness := (true, "671f9f2c4b273ea7f950265b9323da495952d46b966c0c9e52a844975e3b5fef"), looks := true }, kinds := [], alts := [], laidByText := true, laidKinds := [.data, .pinned], laidTests := true, laidLooks := .later }
def TenantBackUptoCardSaid : Prop := Claim7.holds Tryz.pinned (.plain (OpenSpec.upto tenantBackSpec)) tenantBackUptoCard

/-- THE SECOND FORM's CARD OF 'godownlaw25.TenantReads'. -/
def tenantReadsUptoCard : Claim7 := { stood := { row := tenantReadsUptoRow, standIns := [], harness := (true, "671f9f2c4b273ea7f950265b9323da495952d46b966c0c9e52a844975e3b5fef"), looks := true }, kinds := [], alts := [], laidByText := true, laidKinds := [.data, .pinned], laidTests := true, laidLooks := .later }
def TenantReadsUptoCardSaid : Prop := Claim7.holds Tryz.pinned (.plain (OpenSpec.upto tenantReadsSpec)) tenantReadsUptoCard

/-- THE SECOND FORM's CARD OF 'godownlaw25.TenantOwn'. -/
def tenantOwnUptoCard : Claim7 := { stood := { row := tenantOwnUptoRow, standIns := [], harness := (true, "671f9f2c4b273ea7f950265b9323da495952d46b966c0c9e52a844975e3b5fef"), looks := true }, kinds := [], alts := [], laidByText := true, laidKinds := [.data, .pinned], laidTests := true, laidLooks := .later }
def TenantOwnUptoCardSaid : Prop := Claim7.holds Tryz.pinned (.plain (OpenSpec.upto tenantOwnSpec)) tenantOwnUptoCard

/-- THE SECOND FORM's CARD OF 'godownlaw32.PersistPages'. -/
def persistPagesUptoCard : Claim7 := { stood := { row := persistPagesUptoRow, standIns := [], harness := (true, "671f9f2c4b273ea7f950265b9323da495952d46b966c0c9e52a844975e3b5fef"), looks := true }, kinds := [], alts := [], laidByText := true, laidKinds := [.data, .pinned], laidTests := true, laidLooks := .later }
def PersistPagesUptoCardSaid : Prop := Claim7.holds Tryz.pinned (.plain (OpenSpec.upto persistPagesSpec)) persistPagesUptoCard

/-- THE SECOND FORM's CARD OF 'godownlaw32.PersistBack'. -/
def persistBackUptoCard : Claim7 := { stood := { row := persistBackUptoRow, standIns := [], harness := (true, "671f9f2c4b273ea7f950265b9323da495952d46b966c0c9e52a844975e3b5fef"), looks := true }, kinds := [], alts := [], laidByText := true, laidKinds := [.data, .pinned], laidTests := true, laidLooks := .later }
def PersistBackUptoCardSaid : Prop := Claim7.holds Tryz.pinned (.plain (OpenSpec.upto persistBackSpec)) persistBackUptoCard

/-- THE SECOND FORM's CARD OF 'godownlaw32.PersistReads'. -/
def persistReadsUptoCard : Claim7 := { stood := { row := persistReadsUptoRow, standIns := [], harness := (true, "671f9f2c4b273ea7f950265b9323da495952d46b966c0c9e52a844975e3b5fef"), looks := true }, kinds := [], alts := [], laidByText := true, laidKinds := [.data, .pinned], laidTests := true, laidLooks := .later }
def PersistReadsUptoCardSaid : Prop := Claim7.holds Tryz.pinned (.plain (OpenSpec.upto persistReadsSpec)) persistReadsUptoCard

/-- THE SECOND FORM's CARD OF 'godownlaw32.PersistOwn'. -/
def persistOwnUptoCard : Claim7 := { stood := { row := persistOwnUptoRow, standIns := [], harness := (true, "671f9f2c4b273ea7f950265b9323da495952d46b966c0c9e52a844975e3b5fef"), looks := true }, kinds := [], alts := [], laidByText := true, laidKinds := [.data, .pinned], laidTests := true, laidLooks := .later }
def PersistOwnUptoCardSaid : Prop := Claim7.holds Tryz.pinned (.plain (OpenSpec.upto persistOwnSpec)) persistOwnUptoCard
end Rows
end Go.Proofs.YtckaneapjpiocaaGreatDoor
