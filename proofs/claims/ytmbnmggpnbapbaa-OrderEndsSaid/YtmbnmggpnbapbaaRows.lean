/-
  No cell of these rows narrows 'for every input' (looked for: loops, veiled, ifaces, maps, wideKeys, modest, calm, conditions, laid).
  DERIVED. THE GIVEN ROWS OF THIS SEAT. 2 by the template 'for every input the law returns true; each argument reads behind the call as it read before'; 0 by the template 'total and deterministic' (their statements: YtmbnmggpnbapbaaTotals.lean).
  GIVEN WITH THE SEED: the statements are not yours to turn. If you find one false, say at which input.
  Laid BY PROGRAM, IN A SANDBOX (cutbox-rows.mjs): the forced cells as the released guide's own fill.sh prints them over the translation cd982b9b88766ede… (all of the seat's roots in one cut). By AI agents, Wed Nov 11 2026. No macro, syntax, notation, axiom, sorry.
-/
import Derived.Test.YtmbnmggpnbapbaaChecked
import GoSem.Claim
import GoSem.ClaimJoined
import GoSem.ClaimMapViews
import Derived.JoinedTies
import Derived.KernelRfl
namespace Go.Proofs.Ytmbnmggpnbapbaa
/- THE CELL 'sum', in the pinned program and in every row, IS THE sha256 OF THE DUMP (.gsa) THAT YtmbnmggpnbapbaaProg.lean LOADS. Nothing in Lean hashes anything: it is a label: what it is worth is what the hold of that sum in a sandbox is worth. -/
noncomputable def Try.pinned : Pinned := { name := "ytmbnmggpnbapbaa", sum := "cd982b9b88766ede293299d7e23d30a88de65e7b02cd9c03fcacb839c1785989", checked := Try.checked }
namespace Rows
def none {H : Type} : Left H := { results := [], args := [] }

/-- 'godownlaw20.OrderWhole': WHATEVER THE INPUT: true; the input reads as it did. -/
def orderWholeSpec : ChangeSpec := { name := "orderWhole", fn := fun _ => fun
  | [d] => { results := [.lit (.bool true)], args := [d] }
  | _ => none }
def orderWholeRow : OpenClaim := { program := "ytmbnmggpnbapbaa", sum := "cd982b9b88766ede293299d7e23d30a88de65e7b02cd9c03fcacb839c1785989", func := "godown/godownlaw20.OrderWhole", spec := "orderWhole", unfollowed := true, recurses := true, apart := false }
def OrderWholeSaid : Prop := orderWholeRow.holds Try.pinned (OpenSpec.ofChange orderWholeSpec)

/-- ITS FALSE NEIGHBOUR: 'it returns false'. Refute it at one input. -/
def orderWholeWrong : ChangeSpec := { name := "orderWhole", fn := fun _ => fun
  | [d] => { results := [.lit (.bool false)], args := [d] }
  | _ => none }
def OrderWholeWrongFalsely : Prop := orderWholeRow.holds Try.pinned (OpenSpec.ofChange orderWholeWrong)

/-- 'godownlaw20.OrderEnds': WHATEVER THE INPUT: true; the input reads as it did. -/
def orderEndsSpec : ChangeSpec := { name := "orderEnds", fn := fun _ => fun
  | [d1, d2] => { results := [.lit (.bool true)], args := [d1, d2] }
  | _ => none }
def orderEndsRow : OpenClaim := { program := "ytmbnmggpnbapbaa", sum := "cd982b9b88766ede293299d7e23d30a88de65e7b02cd9c03fcacb839c1785989", func := "godown/godownlaw20.OrderEnds", spec := "orderEnds", unfollowed := true, recurses := true, apart := false }
def OrderEndsSaid : Prop := orderEndsRow.holds Try.pinned (OpenSpec.ofChange orderEndsSpec)

/-- ITS FALSE NEIGHBOUR: 'it returns false'. Refute it at one input. -/
def orderEndsWrong : ChangeSpec := { name := "orderEnds", fn := fun _ => fun
  | [d1, d2] => { results := [.lit (.bool false)], args := [d1, d2] }
  | _ => none }
def OrderEndsWrongFalsely : Prop := orderEndsRow.holds Try.pinned (OpenSpec.ofChange orderEndsWrong)

/- THE SECOND FORM. 'bulk': how many values and letters a reading holds, each counted each time it is reached (what is shared counts as often as it is met; a slice's spare places count too). A statement '..UptoSaid' is the law's where the arguments, and the package variables that the reading takes, are together of bulk at most 1048576: NARROWER than '..Said'. Prove '..Said' where nothing that the law and all that it calls make is longer than what came in: it says more and counts as full. Else prove '..UptoSaid'. A law counts once. -/
mutual
def uptoBulk {H : Type} : DataW H → Nat
  | .lit (.string bytes) => bytes.length + 1
  | .lit _ => 1
  | .nil => 1
  | .ptr d => uptoBulk d + 1
  | .slice elems spare => uptoBulkAll elems + uptoBulkAll spare + 1
  | .agg parts => uptoBulkAll parts + 1
  | .iface _ d => uptoBulk d + 1
  | .map entries => uptoBulkEntries entries + 1
  | .held _ => 1
def uptoBulkAll {H : Type} : List (DataW H) → Nat
  | [] => 0
  | d :: r => uptoBulk d + uptoBulkAll r
def uptoBulkEntries {H : Type} : List (Lit × DataW H) → Nat
  | [] => 0
  | x :: r => uptoBulkEntry x + uptoBulkEntries r
def uptoBulkEntry {H : Type} : Lit × DataW H → Nat
  | (.string bytes, d) => bytes.length + uptoBulk d + 1
  | (_, d) => uptoBulk d + 1
 end
def uptoSmall : (H : Type) → List (DataW H) → Bool := fun _ ds => decide (uptoBulkAll ds ≤ 1048576)
def OpenSpec.upto (s : _root_.Go.ChangeSpec) : _root_.Go.OpenSpec := { _root_.Go.OpenSpec.ofChange s with cond := some uptoSmall }

/-- 'godownlaw20.OrderWhole', WHERE WHAT IT READS IS OF BULK AT MOST 1048576: true; the input reads as it did. -/
def orderWholeUptoRow : OpenClaim := { program := "ytmbnmggpnbapbaa", sum := "cd982b9b88766ede293299d7e23d30a88de65e7b02cd9c03fcacb839c1785989", func := "godown/godownlaw20.OrderWhole", spec := "orderWhole", unfollowed := true, recurses := true, apart := false, narrowed := true }
def OrderWholeUptoSaid : Prop := orderWholeUptoRow.holds Try.pinned (OpenSpec.upto orderWholeSpec)

/-- 'godownlaw20.OrderEnds', WHERE WHAT IT READS IS OF BULK AT MOST 1048576: true; the input reads as it did. -/
def orderEndsUptoRow : OpenClaim := { program := "ytmbnmggpnbapbaa", sum := "cd982b9b88766ede293299d7e23d30a88de65e7b02cd9c03fcacb839c1785989", func := "godown/godownlaw20.OrderEnds", spec := "orderEnds", unfollowed := true, recurses := true, apart := false, narrowed := true }
def OrderEndsUptoSaid : Prop := orderEndsUptoRow.holds Try.pinned (OpenSpec.upto orderEndsSpec)

end Rows
end Go.Proofs.Ytmbnmggpnbapbaa
