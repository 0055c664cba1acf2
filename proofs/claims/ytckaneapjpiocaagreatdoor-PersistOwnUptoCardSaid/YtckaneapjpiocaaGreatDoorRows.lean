/-
  NARROWER THAN 'FOR EVERY INPUT', by the rows' own cells (each row's printed sentence says how): TenantPages: laid · TenantBack: laid · TenantReads: laid · TenantOwn: laid · PersistPages: laid · PersistBack: laid · PersistReads: laid · PersistOwn: laid.
  DERIVED. THE GIVEN ROWS OF THIS SEAT. 8 by the template 'for every input the law returns true; each argument reads behind the call as it read before'; 0 by the template 'total and deterministic' (their statements: YtckaneapjpiocaaGreatDoorTotals.lean).
  GIVEN WITH THE SEED: the statements are not yours to turn. If you find one false, say at which input.
  Laid BY PROGRAM, IN A SANDBOX (cutbox-rows.mjs): the forced cells as the released guide's own fill.sh prints them over the translation f821092c08c5262d… (all of the seat's roots in one cut). By AI agents, Wed Nov 11 2026. No macro, syntax, notation, axiom, sorry.
-/
import Derived.Test.YtckaneapjpiocaaGreatDoorChecked
import GoSem.PinnedTables
import GoSem.Claim
import GoSem.ClaimJoined
import GoSem.ClaimMapViews
import Derived.JoinedTies
import Derived.KernelRfl
namespace Go.Proofs.YtckaneapjpiocaaGreatDoor
/- THE CELL 'sum', in the pinned program and in every row, IS THE sha256 OF THE DUMP (.gsa) THAT YtckaneapjpiocaaGreatDoorProg.lean LOADS. Nothing in Lean hashes anything: it is a label: what it is worth is what the hold of that sum in a sandbox is worth. -/
noncomputable def Tryz.pinned : Pinned := { name := "ytckaneapjpiocaagreatdoor", sum := "f821092c08c5262d2ec701dfc4f61e902bb244b10917011179759dd273a8645f", checked := Tryz.checked }
namespace Rows
def none {H : Type} : Left H := { results := [], args := [] }

/- WHAT THE LISTED PACKAGE-LEVEL VARIABLES READ AS WHEN THE CALL BEGINS. Each datum BY PROGRAM (the guide's laid-datum.mjs) off the statement by which the dump's own 'gosem.cut.vars' lays the variable. In a bare row this is a premise. The card (YtckaneapjpiocaaGreatDoorCards.lean) ties it to the program's text. -/
def laid_unicode_utf8_acceptRanges {H : Type} : DataW H := .agg [.agg [.lit (.int .u8 128), .lit (.int .u8 191)], .agg [.lit (.int .u8 160), .lit (.int .u8 191)], .agg [.lit (.int .u8 128), .lit (.int .u8 159)], .agg [.lit (.int .u8 144), .lit (.int .u8 191)], .agg [.lit (.int .u8 128), .lit (.int .u8 143)], .agg [.lit (.int .u8 0), .lit (.int .u8 0)], .agg [.lit (.int .u8 0), .lit (.int .u8 0)], .agg [.lit (.int .u8 0), .lit (.int .u8 0)], .agg [.lit (.int .u8 0), .lit (.int .u8 0)], .agg [.lit (.int .u8 0), .lit (.int .u8 0)], .agg [.lit (.int .u8 0), .lit (.int .u8 0)], .agg [.lit (.int .u8 0), .lit (.int .u8 0)], .agg [.lit (.int .u8 0), .lit (.int .u8 0)], .agg [.lit (.int .u8 0), .lit (.int .u8 0)], .agg [.lit (.int .u8 0), .lit (.int .u8 0)], .agg [.lit (.int .u8 0), .lit (.int .u8 0)]]
/-- One of Go's own tables, pinned by name: the form's constant. -/
def laid_unicode_utf8_first : DataW Unit := Go.Pinned.utf8First

/-- 'godownlaw25.TenantPages': WHATEVER THE INPUT: true; the input reads as it did. -/
def tenantPagesSpec : ChangeSpec := { name := "tenantPages", fn := fun _ => fun
  | [d] => { results := [.lit (.bool true)], args := [d] }
  | _ => none }
def tenantPagesRow : OpenClaim := { program := "ytckaneapjpiocaagreatdoor", sum := "f821092c08c5262d2ec701dfc4f61e902bb244b10917011179759dd273a8645f", func := "godown/godownlaw25.TenantPages", spec := "tenantPages", inPlace := ["internal/bytealg.CountString", "internal/bytealg.IndexByteString", "internal/bytealg.IndexString", "internal/abi.NoEscape", "internal/bytealg.MakeNoZero"], unfollowed := true, recurses := true, named := ["unicode/utf8.first", "unicode/utf8.acceptRanges", "internal/bytealg.MaxLen"], apart := false, laid := [("unicode/utf8.acceptRanges", laid_unicode_utf8_acceptRanges), ("unicode/utf8.first", laid_unicode_utf8_first)] }
def TenantPagesSaid : Prop := tenantPagesRow.holds Tryz.pinned (OpenSpec.ofChange tenantPagesSpec)

/-- ITS FALSE NEIGHBOUR: 'it returns false'. Refute it at one input. -/
def tenantPagesWrong : ChangeSpec := { name := "tenantPages", fn := fun _ => fun
  | [d] => { results := [.lit (.bool false)], args := [d] }
  | _ => none }
def TenantPagesWrongFalsely : Prop := tenantPagesRow.holds Tryz.pinned (OpenSpec.ofChange tenantPagesWrong)

/-- 'godownlaw25.TenantBack': WHATEVER THE INPUT: true; the input reads as it did. -/
def tenantBackSpec : ChangeSpec := { name := "tenantBack", fn := fun _ => fun
  | [d] => { results := [.lit (.bool true)], args := [d] }
  | _ => none }
def tenantBackRow : OpenClaim := { program := "ytckaneapjpiocaagreatdoor", sum := "f821092c08c5262d2ec701dfc4f61e902bb244b10917011179759dd273a8645f", func := "godown/godownlaw25.TenantBack", spec := "tenantBack", inPlace := ["internal/bytealg.CountString", "internal/bytealg.IndexByteString", "internal/bytealg.IndexString", "internal/abi.NoEscape", "internal/bytealg.MakeNoZero"], unfollowed := true, recurses := true, named := ["unicode/utf8.first", "unicode/utf8.acceptRanges", "internal/bytealg.MaxLen"], apart := false, laid := [("unicode/utf8.acceptRanges", laid_unicode_utf8_acceptRanges), ("unicode/utf8.first", laid_unicode_utf8_first)] }
def TenantBackSaid : Prop := tenantBackRow.holds Tryz.pinned (OpenSpec.ofChange tenantBackSpec)

/-- ITS FALSE NEIGHBOUR: 'it returns false'. Refute it at one input. -/
def tenantBackWrong : ChangeSpec := { name := "tenantBack", fn := fun _ => fun
  | [d] => { results := [.lit (.bool false)], args := [d] }
  | _ => none }
def TenantBackWrongFalsely : Prop := tenantBackRow.holds Tryz.pinned (OpenSpec.ofChange tenantBackWrong)

/-- 'godownlaw25.TenantReads': WHATEVER THE INPUT: true; the input reads as it did. -/
def tenantReadsSpec : ChangeSpec := { name := "tenantReads", fn := fun _ => fun
  | [d1, d2] => { results := [.lit (.bool true)], args := [d1, d2] }
  | _ => none }
def tenantReadsRow : OpenClaim := { program := "ytckaneapjpiocaagreatdoor", sum := "f821092c08c5262d2ec701dfc4f61e902bb244b10917011179759dd273a8645f", func := "godown/godownlaw25.TenantReads", spec := "tenantReads", inPlace := ["internal/bytealg.CountString", "internal/bytealg.IndexByteString", "internal/bytealg.IndexString", "internal/abi.NoEscape", "internal/bytealg.MakeNoZero"], unfollowed := true, recurses := true, named := ["unicode/utf8.first", "unicode/utf8.acceptRanges", "internal/bytealg.MaxLen"], apart := false, laid := [("unicode/utf8.acceptRanges", laid_unicode_utf8_acceptRanges), ("unicode/utf8.first", laid_unicode_utf8_first)] }
def TenantReadsSaid : Prop := tenantReadsRow.holds Tryz.pinned (OpenSpec.ofChange tenantReadsSpec)

/-- ITS FALSE NEIGHBOUR: 'it returns false'. Refute it at one input. -/
def tenantReadsWrong : ChangeSpec := { name := "tenantReads", fn := fun _ => fun
  | [d1, d2] => { results := [.lit (.bool false)], args := [d1, d2] }
  | _ => none }
def TenantReadsWrongFalsely : Prop := tenantReadsRow.holds Tryz.pinned (OpenSpec.ofChange tenantReadsWrong)

/-- 'godownlaw25.TenantOwn': WHATEVER THE INPUT: true; the input reads as it did. -/
def tenantOwnSpec : ChangeSpec := { name := "tenantOwn", fn := fun _ => fun
  | [d] => { results := [.lit (.bool true)], args := [d] }
  | _ => none }
def tenantOwnRow : OpenClaim := { program := "ytckaneapjpiocaagreatdoor", sum := "f821092c08c5262d2ec701dfc4f61e902bb244b10917011179759dd273a8645f", func := "godown/godownlaw25.TenantOwn", spec := "tenantOwn", inPlace := ["internal/bytealg.CountString", "internal/bytealg.IndexByteString", "internal/bytealg.IndexString", "internal/abi.NoEscape", "internal/bytealg.MakeNoZero"], unfollowed := true, recurses := true, named := ["unicode/utf8.first", "unicode/utf8.acceptRanges", "internal/bytealg.MaxLen"], apart := false, laid := [("unicode/utf8.acceptRanges", laid_unicode_utf8_acceptRanges), ("unicode/utf8.first", laid_unicode_utf8_first)] }
def TenantOwnSaid : Prop := tenantOwnRow.holds Tryz.pinned (OpenSpec.ofChange tenantOwnSpec)

/-- ITS FALSE NEIGHBOUR: 'it returns false'. Refute it at one input. -/
def tenantOwnWrong : ChangeSpec := { name := "tenantOwn", fn := fun _ => fun
  | [d] => { results := [.lit (.bool false)], args := [d] }
  | _ => none }
def TenantOwnWrongFalsely : Prop := tenantOwnRow.holds Tryz.pinned (OpenSpec.ofChange tenantOwnWrong)

/-- 'godownlaw32.PersistPages': WHATEVER THE INPUT: true; the input reads as it did. -/
def persistPagesSpec : ChangeSpec := { name := "persistPages", fn := fun _ => fun
  | [d] => { results := [.lit (.bool true)], args := [d] }
  | _ => none }
def persistPagesRow : OpenClaim := { program := "ytckaneapjpiocaagreatdoor", sum := "f821092c08c5262d2ec701dfc4f61e902bb244b10917011179759dd273a8645f", func := "godown/godownlaw32.PersistPages", spec := "persistPages", inPlace := ["internal/bytealg.CountString", "internal/bytealg.IndexByteString", "internal/bytealg.IndexString", "internal/abi.NoEscape", "internal/bytealg.MakeNoZero"], unfollowed := true, recurses := true, named := ["unicode/utf8.first", "unicode/utf8.acceptRanges", "internal/bytealg.MaxLen"], apart := false, laid := [("unicode/utf8.acceptRanges", laid_unicode_utf8_acceptRanges), ("unicode/utf8.first", laid_unicode_utf8_first)] }
def PersistPagesSaid : Prop := persistPagesRow.holds Tryz.pinned (OpenSpec.ofChange persistPagesSpec)

/-- ITS FALSE NEIGHBOUR: 'it returns false'. Refute it at one input. -/
def persistPagesWrong : ChangeSpec := { name := "persistPages", fn := fun _ => fun
  | [d] => { results := [.lit (.bool false)], args := [d] }
  | _ => none }
def PersistPagesWrongFalsely : Prop := persistPagesRow.holds Tryz.pinned (OpenSpec.ofChange persistPagesWrong)

/-- 'godownlaw32.PersistBack': WHATEVER THE INPUT: true; the input reads as it did. -/
def persistBackSpec : ChangeSpec := { name := "persistBack", fn := fun _ => fun
  | [d] => { results := [.lit (.bool true)], args := [d] }
  | _ => none }
def persistBackRow : OpenClaim := { program := "ytckaneapjpiocaagreatdoor", sum := "f821092c08c5262d2ec701dfc4f61e902bb244b10917011179759dd273a8645f", func := "godown/godownlaw32.PersistBack", spec := "persistBack", inPlace := ["internal/bytealg.CountString", "internal/bytealg.IndexByteString", "internal/bytealg.IndexString", "internal/abi.NoEscape", "internal/bytealg.MakeNoZero"], unfollowed := true, recurses := true, named := ["unicode/utf8.first", "unicode/utf8.acceptRanges", "internal/bytealg.MaxLen"], apart := false, laid := [("unicode/utf8.acceptRanges", laid_unicode_utf8_acceptRanges), ("unicode/utf8.first", laid_unicode_utf8_first)] }
def PersistBackSaid : Prop := persistBackRow.holds Tryz.pinned (OpenSpec.ofChange persistBackSpec)

/-- ITS FALSE NEIGHBOUR: 'it returns false'. Refute it at one input. -/
def persistBackWrong : ChangeSpec := { name := "persistBack", fn := fun _ => fun
  | [d] => { results := [.lit (.bool false)], args := [d] }
  | _ => none }
def PersistBackWrongFalsely : Prop := persistBackRow.holds Tryz.pinned (OpenSpec.ofChange persistBackWrong)

/-- 'godownlaw32.PersistReads': WHATEVER THE INPUT: true; the input reads as it did. -/
def persistReadsSpec : ChangeSpec := { name := "persistReads", fn := fun _ => fun
  | [d] => { results := [.lit (.bool true)], args := [d] }
  | _ => none }
def persistReadsRow : OpenClaim := { program := "ytckaneapjpiocaagreatdoor", sum := "f821092c08c5262d2ec701dfc4f61e902bb244b10917011179759dd273a8645f", func := "godown/godownlaw32.PersistReads", spec := "persistReads", inPlace := ["internal/bytealg.CountString", "internal/bytealg.IndexByteString", "internal/bytealg.IndexString", "internal/abi.NoEscape", "internal/bytealg.MakeNoZero"], unfollowed := true, recurses := true, named := ["unicode/utf8.first", "unicode/utf8.acceptRanges", "internal/bytealg.MaxLen"], apart := false, laid := [("unicode/utf8.acceptRanges", laid_unicode_utf8_acceptRanges), ("unicode/utf8.first", laid_unicode_utf8_first)] }
def PersistReadsSaid : Prop := persistReadsRow.holds Tryz.pinned (OpenSpec.ofChange persistReadsSpec)

/-- ITS FALSE NEIGHBOUR: 'it returns false'. Refute it at one input. -/
def persistReadsWrong : ChangeSpec := { name := "persistReads", fn := fun _ => fun
  | [d] => { results := [.lit (.bool false)], args := [d] }
  | _ => none }
def PersistReadsWrongFalsely : Prop := persistReadsRow.holds Tryz.pinned (OpenSpec.ofChange persistReadsWrong)

/-- 'godownlaw32.PersistOwn': WHATEVER THE INPUT: true; the input reads as it did. -/
def persistOwnSpec : ChangeSpec := { name := "persistOwn", fn := fun _ => fun
  | [d] => { results := [.lit (.bool true)], args := [d] }
  | _ => none }
def persistOwnRow : OpenClaim := { program := "ytckaneapjpiocaagreatdoor", sum := "f821092c08c5262d2ec701dfc4f61e902bb244b10917011179759dd273a8645f", func := "godown/godownlaw32.PersistOwn", spec := "persistOwn", inPlace := ["internal/bytealg.CountString", "internal/bytealg.IndexByteString", "internal/bytealg.IndexString", "internal/abi.NoEscape", "internal/bytealg.MakeNoZero"], unfollowed := true, recurses := true, named := ["unicode/utf8.first", "unicode/utf8.acceptRanges", "internal/bytealg.MaxLen"], apart := false, laid := [("unicode/utf8.acceptRanges", laid_unicode_utf8_acceptRanges), ("unicode/utf8.first", laid_unicode_utf8_first)] }
def PersistOwnSaid : Prop := persistOwnRow.holds Tryz.pinned (OpenSpec.ofChange persistOwnSpec)

/-- ITS FALSE NEIGHBOUR: 'it returns false'. Refute it at one input. -/
def persistOwnWrong : ChangeSpec := { name := "persistOwn", fn := fun _ => fun
  | [d] => { results := [.lit (.bool false)], args := [d] }
  | _ => none }
def PersistOwnWrongFalsely : Prop := persistOwnRow.holds Tryz.pinned (OpenSpec.ofChange persistOwnWrong)

/- THE SECOND FORM. 'bulk': how many values and letters a reading holds, each counted each time it is reached (what is shared counts as often as it is met; a slice's spare places count too). A statement '..UptoSaid' is the law's where the arguments, and the package variables that the reading takes, are together of bulk at most 1048576: NARROWER than '..Said'. Prove '..Said' where nothing that the law and all that it calls make is longer than what came in: it says more and counts as full. Else prove '..UptoSaid'. A law counts once. -/
mutual
def uptoBulk {H : Type} : DataW H → Nat
  | .lit (.string bytes) => bytes.length + 1
  | .lit _ => 1
  | .nil => 1
  | .ptr d => uptoBulk d + 1
  | .slice elems spare => uptoBulkAll elems + uptoBulkAll spare + 1
  | .agg parts => uptoBulkAll parts + 1
  | .iface _ d => uptoBulk d + 1
  | .map entries => uptoBulkEntries entries + 1
  | .held _ => 1
def uptoBulkAll {H : Type} : List (DataW H) → Nat
  | [] => 0
  | d :: r => uptoBulk d + uptoBulkAll r
def uptoBulkEntries {H : Type} : List (Lit × DataW H) → Nat
  | [] => 0
  | x :: r => uptoBulkEntry x + uptoBulkEntries r
def uptoBulkEntry {H : Type} : Lit × DataW H → Nat
  | (.string bytes, d) => bytes.length + uptoBulk d + 1
  | (_, d) => uptoBulk d + 1
 end
def uptoSmall : (H : Type) → List (DataW H) → Bool := fun _ ds => decide (uptoBulkAll ds ≤ 1048576)
def OpenSpec.upto (s : _root_.Go.ChangeSpec) : _root_.Go.OpenSpec := { _root_.Go.OpenSpec.ofChange s with cond := some uptoSmall }

/-- 'godownlaw25.TenantPages', WHERE WHAT IT READS IS OF BULK AT MOST 1048576: true; the input reads as it did. -/
def tenantPagesUptoRow : OpenClaim := { program := "ytckaneapjpiocaagreatdoor", sum := "f821092c08c5262d2ec701dfc4f61e902bb244b10917011179759dd273a8645f", func := "godown/godownlaw25.TenantPages", spec := "tenantPages", inPlace := ["internal/bytealg.CountString", "internal/bytealg.IndexByteString", "internal/bytealg.IndexString", "internal/abi.NoEscape", "internal/bytealg.MakeNoZero"], unfollowed := true, recurses := true, named := ["unicode/utf8.first", "unicode/utf8.acceptRanges", "internal/bytealg.MaxLen"], apart := false, laid := [("unicode/utf8.acceptRanges", laid_unicode_utf8_acceptRanges), ("unicode/utf8.first", laid_unicode_utf8_first)], narrowed := true }
def TenantPagesUptoSaid : Prop := tenantPagesUptoRow.holds Tryz.pinned (OpenSpec.upto tenantPagesSpec)

/-- 'godownlaw25.TenantBack', WHERE WHAT IT READS IS OF BULK AT MOST 1048576: true; the input reads as it did. -/
def tenantBackUptoRow : OpenClaim := { program := "ytckaneapjpiocaagreatdoor", sum := "f821092c08c5262d2ec701dfc4f61e902bb244b10917011179759dd273a8645f", func := "godown/godownlaw25.TenantBack", spec := "tenantBack", inPlace := ["internal/bytealg.CountString", "internal/bytealg.IndexByteString", "internal/bytealg.IndexString", "internal/abi.NoEscape", "internal/bytealg.MakeNoZero"], unfollowed := true, recurses := true, named := ["unicode/utf8.first", "unicode/utf8.acceptRanges", "internal/bytealg.MaxLen"], apart := false, laid := [("unicode/utf8.acceptRanges", laid_unicode_utf8_acceptRanges), ("unicode/utf8.first", laid_unicode_utf8_first)], narrowed := true }
def TenantBackUptoSaid : Prop := tenantBackUptoRow.holds Tryz.pinned (OpenSpec.upto tenantBackSpec)

/-- 'godownlaw25.TenantReads', WHERE WHAT IT READS IS OF BULK AT MOST 1048576: true; the input reads as it did. -/
def tenantReadsUptoRow : OpenClaim := { program := "ytckaneapjpiocaagreatdoor", sum := "f821092c08c5262d2ec701dfc4f61e902bb244b10917011179759dd273a8645f", func := "godown/godownlaw25.TenantReads", spec := "tenantReads", inPlace := ["internal/bytealg.CountString", "internal/bytealg.IndexByteString", "internal/bytealg.IndexString", "internal/abi.NoEscape", "internal/bytealg.MakeNoZero"], unfollowed := true, recurses := true, named := ["unicode/utf8.first", "unicode/utf8.acceptRanges", "internal/bytealg.MaxLen"], apart := false, laid := [("unicode/utf8.acceptRanges", laid_unicode_utf8_acceptRanges), ("unicode/utf8.first", laid_unicode_utf8_first)], narrowed := true }
def TenantReadsUptoSaid : Prop := tenantReadsUptoRow.holds Tryz.pinned (OpenSpec.upto tenantReadsSpec)

/-- 'godownlaw25.TenantOwn', WHERE WHAT IT READS IS OF BULK AT MOST 1048576: true; the input reads as it did. -/
def tenantOwnUptoRow : OpenClaim := { program := "ytckaneapjpiocaagreatdoor", sum := "f821092c08c5262d2ec701dfc4f61e902bb244b10917011179759dd273a8645f", func := "godown/godownlaw25.TenantOwn", spec := "tenantOwn", inPlace := ["internal/bytealg.CountString", "internal/bytealg.IndexByteString", "internal/bytealg.IndexString", "internal/abi.NoEscape", "internal/bytealg.MakeNoZero"], unfollowed := true, recurses := true, named := ["unicode/utf8.first", "unicode/utf8.acceptRanges", "internal/bytealg.MaxLen"], apart := false, laid := [("unicode/utf8.acceptRanges", laid_unicode_utf8_acceptRanges), ("unicode/utf8.first", laid_unicode_utf8_first)], narrowed := true }
def TenantOwnUptoSaid : Prop := tenantOwnUptoRow.holds Tryz.pinned (OpenSpec.upto tenantOwnSpec)

/-- 'godownlaw32.PersistPages', WHERE WHAT IT READS IS OF BULK AT MOST 1048576: true; the input reads as it did. -/
def persistPagesUptoRow : OpenClaim := { program := "ytckaneapjpiocaagreatdoor", sum := "f821092c08c5262d2ec701dfc4f61e902bb244b10917011179759dd273a8645f", func := "godown/godownlaw32.PersistPages", spec := "persistPages", inPlace := ["internal/bytealg.CountString", "internal/bytealg.IndexByteString", "internal/bytealg.IndexString", "internal/abi.NoEscape", "internal/bytealg.MakeNoZero"], unfollowed := true, recurses := true, named := ["unicode/utf8.first", "unicode/utf8.acceptRanges", "internal/bytealg.MaxLen"], apart := false, laid := [("unicode/utf8.acceptRanges", laid_unicode_utf8_acceptRanges), ("unicode/utf8.first", laid_unicode_utf8_first)], narrowed := true }
def PersistPagesUptoSaid : Prop := persistPagesUptoRow.holds Tryz.pinned (OpenSpec.upto persistPagesSpec)

/-- 'godownlaw32.PersistBack', WHERE WHAT IT READS IS OF BULK AT MOST 1048576: true; the input reads as it did. -/
def persistBackUptoRow : OpenClaim := { program := "ytckaneapjpiocaagreatdoor", sum := "f821092c08c5262d2ec701dfc4f61e902bb244b10917011179759dd273a8645f", func := "godown/godownlaw32.PersistBack", spec := "persistBack", inPlace := ["internal/bytealg.CountString", "internal/bytealg.IndexByteString", "internal/bytealg.IndexString", "internal/abi.NoEscape", "internal/bytealg.MakeNoZero"], unfollowed := true, recurses := true, named := ["unicode/utf8.first", "unicode/utf8.acceptRanges", "internal/bytealg.MaxLen"], apart := false, laid := [("unicode/utf8.acceptRanges", laid_unicode_utf8_acceptRanges), ("unicode/utf8.first", laid_unicode_utf8_first)], narrowed := true }
def PersistBackUptoSaid : Prop := persistBackUptoRow.holds Tryz.pinned (OpenSpec.upto persistBackSpec)

/-- 'godownlaw32.PersistReads', WHERE WHAT IT READS IS OF BULK AT MOST 1048576: true; the input reads as it did. -/
def persistReadsUptoRow : OpenClaim := { program := "ytckaneapjpiocaagreatdoor", sum := "f821092c08c5262d2ec701dfc4f61e902bb244b10917011179759dd273a8645f", func := "godown/godownlaw32.PersistReads", spec := "persistReads", inPlace := ["internal/bytealg.CountString", "internal/bytealg.IndexByteString", "internal/bytealg.IndexString", "internal/abi.NoEscape", "internal/bytealg.MakeNoZero"], unfollowed := true, recurses := true, named := ["unicode/utf8.first", "unicode/utf8.acceptRanges", "internal/bytealg.MaxLen"], apart := false, laid := [("unicode/utf8.acceptRanges", laid_unicode_utf8_acceptRanges), ("unicode/utf8.first", laid_unicode_utf8_first)], narrowed := true }
def PersistReadsUptoSaid : Prop := persistReadsUptoRow.holds Tryz.pinned (OpenSpec.upto persistReadsSpec)

/-- 'godownlaw32.PersistOwn', WHERE WHAT IT READS IS OF BULK AT MOST 1048576: true; the input reads as it did. -/
def persistOwnUptoRow : OpenClaim := { program := "ytckaneapjpiocaagreatdoor", sum := "f821092c08c5262d2ec701dfc4f61e902bb244b10917011179759dd273a8645f", func := "godown/godownlaw32.PersistOwn", spec := "persistOwn", inPlace := ["internal/bytealg.CountString", "internal/bytealg.IndexByteString", "internal/bytealg.IndexString", "internal/abi.NoEscape", "internal/bytealg.MakeNoZero"], unfollowed := true, recurses := true, named := ["unicode/utf8.first", "unicode/utf8.acceptRanges", "internal/bytealg.MaxLen"], apart := false, laid := [("unicode/utf8.acceptRanges", laid_unicode_utf8_acceptRanges), ("unicode/utf8.first", laid_unicode_utf8_first)], narrowed := true }
def PersistOwnUptoSaid : Prop := persistOwnUptoRow.holds Tryz.pinned (OpenSpec.upto persistOwnSpec)

end Rows
end Go.Proofs.YtckaneapjpiocaaGreatDoor
