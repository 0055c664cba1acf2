/-
  No cell of these rows narrows 'for every input' (looked for: loops, veiled, ifaces, maps, wideKeys, modest, calm, conditions, laid).
  DERIVED. THE GIVEN ROWS OF THIS SEAT. 4 by the template 'for every input the law returns true; each argument reads behind the call as it read before'; 0 by the template 'total and deterministic' (their statements: YthjpjhcbefhpbaaTotals.lean).
  GIVEN WITH THE SEED: the statements are not yours to turn. If you find one false, say at which input.
  Laid BY PROGRAM, IN A SANDBOX (cutbox-rows.mjs): the forced cells as the released guide's own fill.sh prints them over the translation 2cc1fb1d879a24ac… (all of the seat's roots in one cut). By AI agents, Wed Nov 11 2026. No macro, syntax, notation, axiom, sorry.
-/
import Derived.Test.YthjpjhcbefhpbaaChecked
import GoSem.Claim
import GoSem.ClaimJoined
import GoSem.ClaimMapViews
import Derived.JoinedTies
import Derived.KernelRfl
namespace Go.Proofs.Ythjpjhcbefhpbaa
/- THE CELL 'sum', in the pinned program and in every row, IS THE sha256 OF THE DUMP (.gsa) THAT YthjpjhcbefhpbaaProg.lean LOADS. Nothing in Lean hashes anything: it is a label: what it is worth is what the hold of that sum in a sandbox is worth. -/
noncomputable def Try.pinned : Pinned := { name := "ythjpjhcbefhpbaa", sum := "2cc1fb1d879a24ace7f5aeb856744b6a029565ad1cd4b471a4153bf339bb4aaa", checked := Try.checked }
namespace Rows
def none {H : Type} : Left H := { results := [], args := [] }

/-- 'godownlaw06.DeviceActs': WHATEVER THE INPUT: true; the input reads as it did. -/
def deviceActsSpec : ChangeSpec := { name := "deviceActs", fn := fun _ => fun
  | [d1, d2, d3] => { results := [.lit (.bool true)], args := [d1, d2, d3] }
  | _ => none }
def deviceActsRow : OpenClaim := { program := "ythjpjhcbefhpbaa", sum := "2cc1fb1d879a24ace7f5aeb856744b6a029565ad1cd4b471a4153bf339bb4aaa", func := "godown/godownlaw06.DeviceActs", spec := "deviceActs", unfollowed := true, recurses := true, apart := false }
def DeviceActsSaid : Prop := deviceActsRow.holds Try.pinned (OpenSpec.ofChange deviceActsSpec)

/-- ITS FALSE NEIGHBOUR: 'it returns false'. Refute it at one input. -/
def deviceActsWrong : ChangeSpec := { name := "deviceActs", fn := fun _ => fun
  | [d1, d2, d3] => { results := [.lit (.bool false)], args := [d1, d2, d3] }
  | _ => none }
def DeviceActsWrongFalsely : Prop := deviceActsRow.holds Try.pinned (OpenSpec.ofChange deviceActsWrong)

/-- 'godownlaw06.DeviceRefuses': WHATEVER THE INPUT: true; the input reads as it did. -/
def deviceRefusesSpec : ChangeSpec := { name := "deviceRefuses", fn := fun _ => fun
  | [d1, d2, d3] => { results := [.lit (.bool true)], args := [d1, d2, d3] }
  | _ => none }
def deviceRefusesRow : OpenClaim := { program := "ythjpjhcbefhpbaa", sum := "2cc1fb1d879a24ace7f5aeb856744b6a029565ad1cd4b471a4153bf339bb4aaa", func := "godown/godownlaw06.DeviceRefuses", spec := "deviceRefuses", unfollowed := true, recurses := true, apart := false }
def DeviceRefusesSaid : Prop := deviceRefusesRow.holds Try.pinned (OpenSpec.ofChange deviceRefusesSpec)

/-- ITS FALSE NEIGHBOUR: 'it returns false'. Refute it at one input. -/
def deviceRefusesWrong : ChangeSpec := { name := "deviceRefuses", fn := fun _ => fun
  | [d1, d2, d3] => { results := [.lit (.bool false)], args := [d1, d2, d3] }
  | _ => none }
def DeviceRefusesWrongFalsely : Prop := deviceRefusesRow.holds Try.pinned (OpenSpec.ofChange deviceRefusesWrong)

/-- 'godownlaw06.DeviceFlushed': WHATEVER THE INPUT: true; the input reads as it did. -/
def deviceFlushedSpec : ChangeSpec := { name := "deviceFlushed", fn := fun _ => fun
  | [d1, d2, d3] => { results := [.lit (.bool true)], args := [d1, d2, d3] }
  | _ => none }
def deviceFlushedRow : OpenClaim := { program := "ythjpjhcbefhpbaa", sum := "2cc1fb1d879a24ace7f5aeb856744b6a029565ad1cd4b471a4153bf339bb4aaa", func := "godown/godownlaw06.DeviceFlushed", spec := "deviceFlushed", unfollowed := true, recurses := true, apart := false }
def DeviceFlushedSaid : Prop := deviceFlushedRow.holds Try.pinned (OpenSpec.ofChange deviceFlushedSpec)

/-- ITS FALSE NEIGHBOUR: 'it returns false'. Refute it at one input. -/
def deviceFlushedWrong : ChangeSpec := { name := "deviceFlushed", fn := fun _ => fun
  | [d1, d2, d3] => { results := [.lit (.bool false)], args := [d1, d2, d3] }
  | _ => none }
def DeviceFlushedWrongFalsely : Prop := deviceFlushedRow.holds Try.pinned (OpenSpec.ofChange deviceFlushedWrong)

/-- 'godownlaw06.DeviceOwn': WHATEVER THE INPUT: true; the input reads as it did. -/
def deviceOwnSpec : ChangeSpec := { name := "deviceOwn", fn := fun _ => fun
  | [d1, d2, d3] => { results := [.lit (.bool true)], args := [d1, d2, d3] }
  | _ => none }
def deviceOwnRow : OpenClaim := { program := "ythjpjhcbefhpbaa", sum := "2cc1fb1d879a24ace7f5aeb856744b6a029565ad1cd4b471a4153bf339bb4aaa", func := "godown/godownlaw06.DeviceOwn", spec := "deviceOwn", unfollowed := true, recurses := true, apart := false }
def DeviceOwnSaid : Prop := deviceOwnRow.holds Try.pinned (OpenSpec.ofChange deviceOwnSpec)

/-- ITS FALSE NEIGHBOUR: 'it returns false'. Refute it at one input. -/
def deviceOwnWrong : ChangeSpec := { name := "deviceOwn", fn := fun _ => fun
  | [d1, d2, d3] => { results := [.lit (.bool false)], args := [d1, d2, d3] }
  | _ => none }
def DeviceOwnWrongFalsely : Prop := deviceOwnRow.holds Try.pinned (OpenSpec.ofChange deviceOwnWrong)

/- THE SECOND FORM. 'bulk': how many values and letters a reading holds, each counted each time it is reached (what is shared counts as often as it is met; a slice's spare places count too). A statement '..UptoSaid' is the law's where the arguments, and the package variables that the reading takes, are together of bulk at most 1048576: NARROWER than '..Said'. Prove '..Said' where nothing that the law and all that it calls make is longer than what came in: it says more and counts as full. Else prove '..UptoSaid'. A law counts once. -/
mutual
def uptoBulk {H : Type} : DataW H → Nat
  | .lit (.string bytes) => bytes.length + 1
  | .lit _ => 1
  | .nil => 1
  | .ptr d => uptoBulk d + 1
  | .slice elems spare => uptoBulkAll elems + uptoBulkAll spare + 1
  | .agg parts => uptoBulkAll parts + 1
  | .iface _ d => uptoBulk d + 1
  | .map entries => uptoBulkEntries entries + 1
  | .held _ => 1
def uptoBulkAll {H : Type} : List (DataW H) → Nat
  | [] => 0
  | d :: r => uptoBulk d + uptoBulkAll r
def uptoBulkEntries {H : Type} : List (Lit × DataW H) → Nat
  | [] => 0
  | x :: r => uptoBulkEntry x + uptoBulkEntries r
def uptoBulkEntry {H : Type} : Lit × DataW H → Nat
  | (.string bytes, d) => bytes.length + uptoBulk d + 1
  | (_, d) => uptoBulk d + 1
 end
def uptoSmall : (H : Type) → List (DataW H) → Bool := fun _ ds => decide (uptoBulkAll ds ≤ 1048576)
def OpenSpec.upto (s : _root_.Go.ChangeSpec) : _root_.Go.OpenSpec := { _root_.Go.OpenSpec.ofChange s with cond := some uptoSmall }

/-- 'godownlaw06.DeviceActs', WHERE WHAT IT READS IS OF BULK AT MOST 1048576: true; the input reads as it did. -/
def deviceActsUptoRow : OpenClaim := { program := "ythjpjhcbefhpbaa", sum := "2cc1fb1d879a24ace7f5aeb856744b6a029565ad1cd4b471a4153bf339bb4aaa", func := "godown/godownlaw06.DeviceActs", spec := "deviceActs", unfollowed := true, recurses := true, apart := false, narrowed := true }
def DeviceActsUptoSaid : Prop := deviceActsUptoRow.holds Try.pinned (OpenSpec.upto deviceActsSpec)

/-- 'godownlaw06.DeviceRefuses', WHERE WHAT IT READS IS OF BULK AT MOST 1048576: true; the input reads as it did. -/
def deviceRefusesUptoRow : OpenClaim := { program := "ythjpjhcbefhpbaa", sum := "2cc1fb1d879a24ace7f5aeb856744b6a029565ad1cd4b471a4153bf339bb4aaa", func := "godown/godownlaw06.DeviceRefuses", spec := "deviceRefuses", unfollowed := true, recurses := true, apart := false, narrowed := true }
def DeviceRefusesUptoSaid : Prop := deviceRefusesUptoRow.holds Try.pinned (OpenSpec.upto deviceRefusesSpec)

/-- 'godownlaw06.DeviceFlushed', WHERE WHAT IT READS IS OF BULK AT MOST 1048576: true; the input reads as it did. -/
def deviceFlushedUptoRow : OpenClaim := { program := "ythjpjhcbefhpbaa", sum := "2cc1fb1d879a24ace7f5aeb856744b6a029565ad1cd4b471a4153bf339bb4aaa", func := "godown/godownlaw06.DeviceFlushed", spec := "deviceFlushed", unfollowed := true, recurses := true, apart := false, narrowed := true }
def DeviceFlushedUptoSaid : Prop := deviceFlushedUptoRow.holds Try.pinned (OpenSpec.upto deviceFlushedSpec)

/-- 'godownlaw06.DeviceOwn', WHERE WHAT IT READS IS OF BULK AT MOST 1048576: true; the input reads as it did. -/
def deviceOwnUptoRow : OpenClaim := { program := "ythjpjhcbefhpbaa", sum := "2cc1fb1d879a24ace7f5aeb856744b6a029565ad1cd4b471a4153bf339bb4aaa", func := "godown/godownlaw06.DeviceOwn", spec := "deviceOwn", unfollowed := true, recurses := true, apart := false, narrowed := true }
def DeviceOwnUptoSaid : Prop := deviceOwnUptoRow.holds Try.pinned (OpenSpec.upto deviceOwnSpec)

end Rows
end Go.Proofs.Ythjpjhcbefhpbaa
