/-
  NARROWER THAN 'FOR EVERY INPUT', by the rows' own cells (each row's printed sentence says how): StagingTells: laid · StagingOwn: laid · StagingSnaps: laid · StagingBack: laid.
  DERIVED. THE GIVEN ROWS OF THIS SEAT. 4 by the template 'for every input the law returns true; each argument reads behind the call as it read before'; 0 by the template 'total and deterministic' (their statements: YtmecjjmlccdppaaGreatDoorTotals.lean).
  GIVEN WITH THE SEED: the statements are not yours to turn. If you find one false, say at which input.
  Laid BY PROGRAM, IN A SANDBOX (cutbox-rows.mjs): the forced cells as the released guide's own fill.sh prints them over the translation d73881d60f52f2ea… (all of the seat's roots in one cut). By AI agents, Wed Nov 11 2026. No macro, syntax, notation, axiom, sorry.
-/
import Derived.Test.YtmecjjmlccdppaaGreatDoorChecked
import GoSem.PinnedTables
import GoSem.Claim
import GoSem.ClaimJoined
import GoSem.ClaimMapViews
import Derived.JoinedTies
import Derived.KernelRfl
namespace Go.Proofs.YtmecjjmlccdppaaGreatDoor
/- THE CELL 'sum', in the pinned program and in every row, IS THE sha256 OF THE DUMP (.gsa) THAT YtmecjjmlccdppaaGreatDoorProg.lean LOADS. Nothing in Lean hashes anything: it is a label: what it is worth is what the hold of that sum in a sandbox is worth. -/
noncomputable def Tryz.pinned : Pinned := { name := "ytmecjjmlccdppaagreatdoor", sum := "d73881d60f52f2ea093eae38e2f8b0ac2b1fffff06b4d0e34df840d88ad90ddd", checked := Tryz.checked }
namespace Rows
def none {H : Type} : Left H := { results := [], args := [] }

/- WHAT THE LISTED PACKAGE-LEVEL VARIABLES READ AS WHEN THE CALL BEGINS. Each datum BY PROGRAM (the guide's laid-datum.mjs) off the statement by which the dump's own 'gosem.cut.vars' lays the variable. In a bare row this is a premise. The card (YtmecjjmlccdppaaGreatDoorCards.lean) ties it to the program's text. -/
def laid_unicode_utf8_acceptRanges {H : Type} : DataW H := .agg [.agg [.lit (.int .u8 128), .lit (.int .u8 191)], .agg [.lit (.int .u8 160), .lit (.int .u8 191)], .agg [.lit (.int .u8 128), .lit (.int .u8 159)], .agg [.lit (.int .u8 144), .lit (.int .u8 191)], .agg [.lit (.int .u8 128), .lit (.int .u8 143)], .agg [.lit (.int .u8 0), .lit (.int .u8 0)], .agg [.lit (.int .u8 0), .lit (.int .u8 0)], .agg [.lit (.int .u8 0), .lit (.int .u8 0)], .agg [.lit (.int .u8 0), .lit (.int .u8 0)], .agg [.lit (.int .u8 0), .lit (.int .u8 0)], .agg [.lit (.int .u8 0), .lit (.int .u8 0)], .agg [.lit (.int .u8 0), .lit (.int .u8 0)], .agg [.lit (.int .u8 0), .lit (.int .u8 0)], .agg [.lit (.int .u8 0), .lit (.int .u8 0)], .agg [.lit (.int .u8 0), .lit (.int .u8 0)], .agg [.lit (.int .u8 0), .lit (.int .u8 0)]]
/-- One of Go's own tables, pinned by name: the form's constant. -/
def laid_unicode_utf8_first : DataW Unit := Go.Pinned.utf8First

/-- 'godownlaw22.StagingTells': WHATEVER THE INPUT: true; the input reads as it did. -/
def stagingTellsSpec : ChangeSpec := { name := "stagingTells", fn := fun _ => fun
  | [d1, d2, d3, d4, d5] => { results := [.lit (.bool true)], args := [d1, d2, d3, d4, d5] }
  | _ => none }
def stagingTellsRow : OpenClaim := { program := "ytmecjjmlccdppaagreatdoor", sum := "d73881d60f52f2ea093eae38e2f8b0ac2b1fffff06b4d0e34df840d88ad90ddd", func := "godown/godownlaw22.StagingTells", spec := "stagingTells", inPlace := ["internal/bytealg.CountString", "internal/bytealg.IndexByteString", "internal/bytealg.IndexString", "slices.overlaps[godown/api.Block]"], unfollowed := true, recurses := true, named := ["unicode/utf8.first", "unicode/utf8.acceptRanges", "internal/bytealg.MaxLen"], apart := false, laid := [("unicode/utf8.acceptRanges", laid_unicode_utf8_acceptRanges), ("unicode/utf8.first", laid_unicode_utf8_first)] }
def StagingTellsSaid : Prop := stagingTellsRow.holds Tryz.pinned (OpenSpec.ofChange stagingTellsSpec)

/-- ITS FALSE NEIGHBOUR: 'it returns false'. Refute it at one input. -/
def stagingTellsWrong : ChangeSpec := { name := "stagingTells", fn := fun _ => fun
  | [d1, d2, d3, d4, d5] => { results := [.lit (.bool false)], args := [d1, d2, d3, d4, d5] }
  | _ => none }
def StagingTellsWrongFalsely : Prop := stagingTellsRow.holds Tryz.pinned (OpenSpec.ofChange stagingTellsWrong)

/-- 'godownlaw22.StagingOwn': WHATEVER THE INPUT: true; the input reads as it did. -/
def stagingOwnSpec : ChangeSpec := { name := "stagingOwn", fn := fun _ => fun
  | [d1, d2] => { results := [.lit (.bool true)], args := [d1, d2] }
  | _ => none }
def stagingOwnRow : OpenClaim := { program := "ytmecjjmlccdppaagreatdoor", sum := "d73881d60f52f2ea093eae38e2f8b0ac2b1fffff06b4d0e34df840d88ad90ddd", func := "godown/godownlaw22.StagingOwn", spec := "stagingOwn", inPlace := ["internal/bytealg.CountString", "internal/bytealg.IndexByteString", "internal/bytealg.IndexString", "slices.overlaps[godown/api.Block]"], unfollowed := true, recurses := true, named := ["unicode/utf8.first", "unicode/utf8.acceptRanges", "internal/bytealg.MaxLen"], apart := false, laid := [("unicode/utf8.acceptRanges", laid_unicode_utf8_acceptRanges), ("unicode/utf8.first", laid_unicode_utf8_first)] }
def StagingOwnSaid : Prop := stagingOwnRow.holds Tryz.pinned (OpenSpec.ofChange stagingOwnSpec)

/-- ITS FALSE NEIGHBOUR: 'it returns false'. Refute it at one input. -/
def stagingOwnWrong : ChangeSpec := { name := "stagingOwn", fn := fun _ => fun
  | [d1, d2] => { results := [.lit (.bool false)], args := [d1, d2] }
  | _ => none }
def StagingOwnWrongFalsely : Prop := stagingOwnRow.holds Tryz.pinned (OpenSpec.ofChange stagingOwnWrong)

/-- 'godownlaw22.StagingSnaps': WHATEVER THE INPUT: true; the input reads as it did. -/
def stagingSnapsSpec : ChangeSpec := { name := "stagingSnaps", fn := fun _ => fun
  | [d1, d2] => { results := [.lit (.bool true)], args := [d1, d2] }
  | _ => none }
def stagingSnapsRow : OpenClaim := { program := "ytmecjjmlccdppaagreatdoor", sum := "d73881d60f52f2ea093eae38e2f8b0ac2b1fffff06b4d0e34df840d88ad90ddd", func := "godown/godownlaw22.StagingSnaps", spec := "stagingSnaps", inPlace := ["internal/bytealg.CountString", "internal/bytealg.IndexByteString", "internal/bytealg.IndexString", "slices.overlaps[godown/api.Block]"], unfollowed := true, recurses := true, named := ["unicode/utf8.first", "unicode/utf8.acceptRanges", "internal/bytealg.MaxLen"], apart := false, laid := [("unicode/utf8.acceptRanges", laid_unicode_utf8_acceptRanges), ("unicode/utf8.first", laid_unicode_utf8_first)] }
def StagingSnapsSaid : Prop := stagingSnapsRow.holds Tryz.pinned (OpenSpec.ofChange stagingSnapsSpec)

/-- ITS FALSE NEIGHBOUR: 'it returns false'. Refute it at one input. -/
def stagingSnapsWrong : ChangeSpec := { name := "stagingSnaps", fn := fun _ => fun
  | [d1, d2] => { results := [.lit (.bool false)], args := [d1, d2] }
  | _ => none }
def StagingSnapsWrongFalsely : Prop := stagingSnapsRow.holds Tryz.pinned (OpenSpec.ofChange stagingSnapsWrong)

/-- 'godownlaw22.StagingBack': WHATEVER THE INPUT: true; the input reads as it did. -/
def stagingBackSpec : ChangeSpec := { name := "stagingBack", fn := fun _ => fun
  | [d1, d2, d3, d4] => { results := [.lit (.bool true)], args := [d1, d2, d3, d4] }
  | _ => none }
def stagingBackRow : OpenClaim := { program := "ytmecjjmlccdppaagreatdoor", sum := "d73881d60f52f2ea093eae38e2f8b0ac2b1fffff06b4d0e34df840d88ad90ddd", func := "godown/godownlaw22.StagingBack", spec := "stagingBack", inPlace := ["internal/bytealg.CountString", "internal/bytealg.IndexByteString", "internal/bytealg.IndexString", "slices.overlaps[godown/api.Block]"], unfollowed := true, recurses := true, named := ["unicode/utf8.first", "unicode/utf8.acceptRanges", "internal/bytealg.MaxLen"], apart := false, laid := [("unicode/utf8.acceptRanges", laid_unicode_utf8_acceptRanges), ("unicode/utf8.first", laid_unicode_utf8_first)] }
def StagingBackSaid : Prop := stagingBackRow.holds Tryz.pinned (OpenSpec.ofChange stagingBackSpec)

/-- ITS FALSE NEIGHBOUR: 'it returns false'. Refute it at one input. -/
def stagingBackWrong : ChangeSpec := { name := "stagingBack", fn := fun _ => fun
  | [d1, d2, d3, d4] => { results := [.lit (.bool false)], args := [d1, d2, d3, d4] }
  | _ => none }
def StagingBackWrongFalsely : Prop := stagingBackRow.holds Tryz.pinned (OpenSpec.ofChange stagingBackWrong)

/- THE SECOND FORM. 'bulk': how many values and letters a reading holds, each counted each time it is reached (what is shared counts as often as it is met; a slice's spare places count too). A statement '..UptoSaid' is the law's where the arguments, and the package variables that the reading takes, are together of bulk at most 1048576: NARROWER than '..Said'. Prove '..Said' where nothing that the law and all that it calls make is longer than what came in: it says more and counts as full. Else prove '..UptoSaid'. A law counts once. -/
mutual
def uptoBulk {H : Type} : DataW H → Nat
  | .lit (.string bytes) => bytes.length + 1
  | .lit _ => 1
  | .nil => 1
  | .ptr d => uptoBulk d + 1
  | .slice elems spare => uptoBulkAll elems + uptoBulkAll spare + 1
  | .agg parts => uptoBulkAll parts + 1
  | .iface _ d => uptoBulk d + 1
  | .map entries => uptoBulkEntries entries + 1
  | .held _ => 1
def uptoBulkAll {H : Type} : List (DataW H) → Nat
  | [] => 0
  | d :: r => uptoBulk d + uptoBulkAll r
def uptoBulkEntries {H : Type} : List (Lit × DataW H) → Nat
  | [] => 0
  | x :: r => uptoBulkEntry x + uptoBulkEntries r
def uptoBulkEntry {H : Type} : Lit × DataW H → Nat
  | (.string bytes, d) => bytes.length + uptoBulk d + 1
  | (_, d) => uptoBulk d + 1
 end
def uptoSmall : (H : Type) → List (DataW H) → Bool := fun _ ds => decide (uptoBulkAll ds ≤ 1048576)
def OpenSpec.upto (s : _root_.Go.ChangeSpec) : _root_.Go.OpenSpec := { _root_.Go.OpenSpec.ofChange s with cond := some uptoSmall }

/-- 'godownlaw22.StagingTells', WHERE WHAT IT READS IS OF BULK AT MOST 1048576: true; the input reads as it did. -/
def stagingTellsUptoRow : OpenClaim := { program := "ytmecjjmlccdppaagreatdoor", sum := "d73881d60f52f2ea093eae38e2f8b0ac2b1fffff06b4d0e34df840d88ad90ddd", func := "godown/godownlaw22.StagingTells", spec := "stagingTells", inPlace := ["internal/bytealg.CountString", "internal/bytealg.IndexByteString", "internal/bytealg.IndexString", "slices.overlaps[godown/api.Block]"], unfollowed := true, recurses := true, named := ["unicode/utf8.first", "unicode/utf8.acceptRanges", "internal/bytealg.MaxLen"], apart := false, laid := [("unicode/utf8.acceptRanges", laid_unicode_utf8_acceptRanges), ("unicode/utf8.first", laid_unicode_utf8_first)], narrowed := true }
def StagingTellsUptoSaid : Prop := stagingTellsUptoRow.holds Tryz.pinned (OpenSpec.upto stagingTellsSpec)

/-- 'godownlaw22.StagingOwn', WHERE WHAT IT READS IS OF BULK AT MOST 1048576: true; the input reads as it did. -/
def stagingOwnUptoRow : OpenClaim := { program := "ytmecjjmlccdppaagreatdoor", sum := "d73881d60f52f2ea093eae38e2f8b0ac2b1fffff06b4d0e34df840d88ad90ddd", func := "godown/godownlaw22.StagingOwn", spec := "stagingOwn", inPlace := ["internal/bytealg.CountString", "internal/bytealg.IndexByteString", "internal/bytealg.IndexString", "slices.overlaps[godown/api.Block]"], unfollowed := true, recurses := true, named := ["unicode/utf8.first", "unicode/utf8.acceptRanges", "internal/bytealg.MaxLen"], apart := false, laid := [("unicode/utf8.acceptRanges", laid_unicode_utf8_acceptRanges), ("unicode/utf8.first", laid_unicode_utf8_first)], narrowed := true }
def StagingOwnUptoSaid : Prop := stagingOwnUptoRow.holds Tryz.pinned (OpenSpec.upto stagingOwnSpec)

/-- 'godownlaw22.StagingSnaps', WHERE WHAT IT READS IS OF BULK AT MOST 1048576: true; the input reads as it did. -/
def stagingSnapsUptoRow : OpenClaim := { program := "ytmecjjmlccdppaagreatdoor", sum := "d73881d60f52f2ea093eae38e2f8b0ac2b1fffff06b4d0e34df840d88ad90ddd", func := "godown/godownlaw22.StagingSnaps", spec := "stagingSnaps", inPlace := ["internal/bytealg.CountString", "internal/bytealg.IndexByteString", "internal/bytealg.IndexString", "slices.overlaps[godown/api.Block]"], unfollowed := true, recurses := true, named := ["unicode/utf8.first", "unicode/utf8.acceptRanges", "internal/bytealg.MaxLen"], apart := false, laid := [("unicode/utf8.acceptRanges", laid_unicode_utf8_acceptRanges), ("unicode/utf8.first", laid_unicode_utf8_first)], narrowed := true }
def StagingSnapsUptoSaid : Prop := stagingSnapsUptoRow.holds Tryz.pinned (OpenSpec.upto stagingSnapsSpec)

/-- 'godownlaw22.StagingBack', WHERE WHAT IT READS IS OF BULK AT MOST 1048576: true; the input reads as it did. -/
def stagingBackUptoRow : OpenClaim := { program := "ytmecjjmlccdppaagreatdoor", sum := "d73881d60f52f2ea093eae38e2f8b0ac2b1fffff06b4d0e34df840d88ad90ddd", func := "godown/godownlaw22.StagingBack", spec := "stagingBack", inPlace := ["internal/bytealg.CountString", "internal/bytealg.IndexByteString", "internal/bytealg.IndexString", "slices.overlaps[godown/api.Block]"], unfollowed := true, recurses := true, named := ["unicode/utf8.first", "unicode/utf8.acceptRanges", "internal/bytealg.MaxLen"], apart := false, laid := [("unicode/utf8.acceptRanges", laid_unicode_utf8_acceptRanges), ("unicode/utf8.first", laid_unicode_utf8_first)], narrowed := true }
def StagingBackUptoSaid : Prop := stagingBackUptoRow.holds Tryz.pinned (OpenSpec.upto stagingBackSpec)

end Rows
end Go.Proofs.YtmecjjmlccdppaaGreatDoor
