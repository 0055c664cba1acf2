/-
  No cell of these rows narrows 'for every input' (looked for: loops, veiled, ifaces, maps, wideKeys, modest, calm, conditions, laid).
  DERIVED. THE GIVEN ROWS OF THIS SEAT. 7 by the template 'for every input the law returns true; each argument reads behind the call as it read before'; 0 by the template 'total and deterministic' (their statements: YtfongpdeflfioaaGreatTotals.lean).
  GIVEN WITH THE SEED: the statements are not yours to turn. If you find one false, say at which input.
  Laid BY PROGRAM, IN A SANDBOX (cutbox-rows.mjs): the forced cells as the released guide's own fill.sh prints them over the translation 642a35b3efe21e93… (all of the seat's roots in one cut). By AI agents, Wed Nov 11 2026. No macro, syntax, notation, axiom, sorry.
-/
import Derived.Test.YtfongpdeflfioaaGreatChecked
import GoSem.Claim
import GoSem.ClaimJoined
import GoSem.ClaimMapViews
import Derived.JoinedTies
import Derived.KernelRfl
namespace Go.Proofs.YtfongpdeflfioaaGreat
/- THE CELL 'sum', in the pinned program and in every row, IS THE sha256 OF THE DUMP (.gsa) THAT YtfongpdeflfioaaGreatProg.lean LOADS. Nothing in Lean hashes anything: it is a label: what it is worth is what the hold of that sum in a sandbox is worth. -/
noncomputable def Tryz.pinned : Pinned := { name := "ytfongpdeflfioaagreat", sum := "642a35b3efe21e930a51120b3cf3bdcc298d50d265ff9196e11b48a7fd984d4a", checked := Tryz.checked }
namespace Rows
def none {H : Type} : Left H := { results := [], args := [] }

/-- 'godownlaw40.ScrubPages': WHATEVER THE INPUT: true; the input reads as it did. -/
def scrubPagesSpec : ChangeSpec := { name := "scrubPages", fn := fun _ => fun
  | [d] => { results := [.lit (.bool true)], args := [d] }
  | _ => none }
def scrubPagesRow : OpenClaim := { program := "ytfongpdeflfioaagreat", sum := "642a35b3efe21e930a51120b3cf3bdcc298d50d265ff9196e11b48a7fd984d4a", func := "godown/godownlaw40.ScrubPages", spec := "scrubPages", unfollowed := true, recurses := true, apart := false }
def ScrubPagesSaid : Prop := scrubPagesRow.holds Tryz.pinned (OpenSpec.ofChange scrubPagesSpec)

/-- ITS FALSE NEIGHBOUR: 'it returns false'. Refute it at one input. -/
def scrubPagesWrong : ChangeSpec := { name := "scrubPages", fn := fun _ => fun
  | [d] => { results := [.lit (.bool false)], args := [d] }
  | _ => none }
def ScrubPagesWrongFalsely : Prop := scrubPagesRow.holds Tryz.pinned (OpenSpec.ofChange scrubPagesWrong)

/-- 'godownlaw10.StoreCrashes': WHATEVER THE INPUT: true; the input reads as it did. -/
def storeCrashesSpec : ChangeSpec := { name := "storeCrashes", fn := fun _ => fun
  | [d1, d2, d3, d4, d5] => { results := [.lit (.bool true)], args := [d1, d2, d3, d4, d5] }
  | _ => none }
def storeCrashesRow : OpenClaim := { program := "ytfongpdeflfioaagreat", sum := "642a35b3efe21e930a51120b3cf3bdcc298d50d265ff9196e11b48a7fd984d4a", func := "godown/godownlaw10.StoreCrashes", spec := "storeCrashes", unfollowed := true, recurses := true, apart := false }
def StoreCrashesSaid : Prop := storeCrashesRow.holds Tryz.pinned (OpenSpec.ofChange storeCrashesSpec)

/-- ITS FALSE NEIGHBOUR: 'it returns false'. Refute it at one input. -/
def storeCrashesWrong : ChangeSpec := { name := "storeCrashes", fn := fun _ => fun
  | [d1, d2, d3, d4, d5] => { results := [.lit (.bool false)], args := [d1, d2, d3, d4, d5] }
  | _ => none }
def StoreCrashesWrongFalsely : Prop := storeCrashesRow.holds Tryz.pinned (OpenSpec.ofChange storeCrashesWrong)

/-- 'godownlaw10.StoreRefuses': WHATEVER THE INPUT: true; the input reads as it did. -/
def storeRefusesSpec : ChangeSpec := { name := "storeRefuses", fn := fun _ => fun
  | [d1, d2] => { results := [.lit (.bool true)], args := [d1, d2] }
  | _ => none }
def storeRefusesRow : OpenClaim := { program := "ytfongpdeflfioaagreat", sum := "642a35b3efe21e930a51120b3cf3bdcc298d50d265ff9196e11b48a7fd984d4a", func := "godown/godownlaw10.StoreRefuses", spec := "storeRefuses", unfollowed := true, recurses := true, apart := false }
def StoreRefusesSaid : Prop := storeRefusesRow.holds Tryz.pinned (OpenSpec.ofChange storeRefusesSpec)

/-- ITS FALSE NEIGHBOUR: 'it returns false'. Refute it at one input. -/
def storeRefusesWrong : ChangeSpec := { name := "storeRefuses", fn := fun _ => fun
  | [d1, d2] => { results := [.lit (.bool false)], args := [d1, d2] }
  | _ => none }
def StoreRefusesWrongFalsely : Prop := storeRefusesRow.holds Tryz.pinned (OpenSpec.ofChange storeRefusesWrong)

/-- 'godownlaw10.StoreOwn': WHATEVER THE INPUT: true; the input reads as it did. -/
def storeOwnSpec : ChangeSpec := { name := "storeOwn", fn := fun _ => fun
  | [d1, d2] => { results := [.lit (.bool true)], args := [d1, d2] }
  | _ => none }
def storeOwnRow : OpenClaim := { program := "ytfongpdeflfioaagreat", sum := "642a35b3efe21e930a51120b3cf3bdcc298d50d265ff9196e11b48a7fd984d4a", func := "godown/godownlaw10.StoreOwn", spec := "storeOwn", unfollowed := true, recurses := true, apart := false }
def StoreOwnSaid : Prop := storeOwnRow.holds Tryz.pinned (OpenSpec.ofChange storeOwnSpec)

/-- ITS FALSE NEIGHBOUR: 'it returns false'. Refute it at one input. -/
def storeOwnWrong : ChangeSpec := { name := "storeOwn", fn := fun _ => fun
  | [d1, d2] => { results := [.lit (.bool false)], args := [d1, d2] }
  | _ => none }
def StoreOwnWrongFalsely : Prop := storeOwnRow.holds Tryz.pinned (OpenSpec.ofChange storeOwnWrong)

/-- 'godownlaw10.StoreOpens': WHATEVER THE INPUT: true; the input reads as it did. -/
def storeOpensSpec : ChangeSpec := { name := "storeOpens", fn := fun _ => fun
  | [d1, d2, d3] => { results := [.lit (.bool true)], args := [d1, d2, d3] }
  | _ => none }
def storeOpensRow : OpenClaim := { program := "ytfongpdeflfioaagreat", sum := "642a35b3efe21e930a51120b3cf3bdcc298d50d265ff9196e11b48a7fd984d4a", func := "godown/godownlaw10.StoreOpens", spec := "storeOpens", unfollowed := true, recurses := true, apart := false }
def StoreOpensSaid : Prop := storeOpensRow.holds Tryz.pinned (OpenSpec.ofChange storeOpensSpec)

/-- ITS FALSE NEIGHBOUR: 'it returns false'. Refute it at one input. -/
def storeOpensWrong : ChangeSpec := { name := "storeOpens", fn := fun _ => fun
  | [d1, d2, d3] => { results := [.lit (.bool false)], args := [d1, d2, d3] }
  | _ => none }
def StoreOpensWrongFalsely : Prop := storeOpensRow.holds Tryz.pinned (OpenSpec.ofChange storeOpensWrong)

/-- 'godownlaw40.ScrubFinds': WHATEVER THE INPUT: true; the input reads as it did. -/
def scrubFindsSpec : ChangeSpec := { name := "scrubFinds", fn := fun _ => fun
  | [d1, d2, d3, d4, d5] => { results := [.lit (.bool true)], args := [d1, d2, d3, d4, d5] }
  | _ => none }
def scrubFindsRow : OpenClaim := { program := "ytfongpdeflfioaagreat", sum := "642a35b3efe21e930a51120b3cf3bdcc298d50d265ff9196e11b48a7fd984d4a", func := "godown/godownlaw40.ScrubFinds", spec := "scrubFinds", unfollowed := true, recurses := true, apart := false }
def ScrubFindsSaid : Prop := scrubFindsRow.holds Tryz.pinned (OpenSpec.ofChange scrubFindsSpec)

/-- ITS FALSE NEIGHBOUR: 'it returns false'. Refute it at one input. -/
def scrubFindsWrong : ChangeSpec := { name := "scrubFinds", fn := fun _ => fun
  | [d1, d2, d3, d4, d5] => { results := [.lit (.bool false)], args := [d1, d2, d3, d4, d5] }
  | _ => none }
def ScrubFindsWrongFalsely : Prop := scrubFindsRow.holds Tryz.pinned (OpenSpec.ofChange scrubFindsWrong)

/-- 'godownlaw40.ScrubSound': WHATEVER THE INPUT: true; the input reads as it did. -/
def scrubSoundSpec : ChangeSpec := { name := "scrubSound", fn := fun _ => fun
  | [d1, d2, d3] => { results := [.lit (.bool true)], args := [d1, d2, d3] }
  | _ => none }
def scrubSoundRow : OpenClaim := { program := "ytfongpdeflfioaagreat", sum := "642a35b3efe21e930a51120b3cf3bdcc298d50d265ff9196e11b48a7fd984d4a", func := "godown/godownlaw40.ScrubSound", spec := "scrubSound", unfollowed := true, recurses := true, apart := false }
def ScrubSoundSaid : Prop := scrubSoundRow.holds Tryz.pinned (OpenSpec.ofChange scrubSoundSpec)

/-- ITS FALSE NEIGHBOUR: 'it returns false'. Refute it at one input. -/
def scrubSoundWrong : ChangeSpec := { name := "scrubSound", fn := fun _ => fun
  | [d1, d2, d3] => { results := [.lit (.bool false)], args := [d1, d2, d3] }
  | _ => none }
def ScrubSoundWrongFalsely : Prop := scrubSoundRow.holds Tryz.pinned (OpenSpec.ofChange scrubSoundWrong)

/- THE SECOND FORM. 'bulk': how many values and letters a reading holds, each counted each time it is reached (what is shared counts as often as it is met; a slice's spare places count too). A statement '..UptoSaid' is the law's where the arguments, and the package variables that the reading takes, are together of bulk at most 1048576: NARROWER than '..Said'. Prove '..Said' where nothing that the law and all that it calls make is longer than what came in: it says more and counts as full. Else prove '..UptoSaid'. A law counts once. -/
mutual
def uptoBulk {H : Type} : DataW H → Nat
  | .lit (.string bytes) => bytes.length + 1
  | .lit _ => 1
  | .nil => 1
  | .ptr d => uptoBulk d + 1
  | .slice elems spare => uptoBulkAll elems + uptoBulkAll spare + 1
  | .agg parts => uptoBulkAll parts + 1
  | .iface _ d => uptoBulk d + 1
  | .map entries => uptoBulkEntries entries + 1
  | .held _ => 1
def uptoBulkAll {H : Type} : List (DataW H) → Nat
  | [] => 0
  | d :: r => uptoBulk d + uptoBulkAll r
def uptoBulkEntries {H : Type} : List (Lit × DataW H) → Nat
  | [] => 0
  | x :: r => uptoBulkEntry x + uptoBulkEntries r
def uptoBulkEntry {H : Type} : Lit × DataW H → Nat
  | (.string bytes, d) => bytes.length + uptoBulk d + 1
  | (_, d) => uptoBulk d + 1
 end
def uptoSmall : (H : Type) → List (DataW H) → Bool := fun _ ds => decide (uptoBulkAll ds ≤ 1048576)
def OpenSpec.upto (s : _root_.Go.ChangeSpec) : _root_.Go.OpenSpec := { _root_.Go.OpenSpec.ofChange s with cond := some uptoSmall }

/-- 'godownlaw40.ScrubPages', WHERE WHAT IT READS IS OF BULK AT MOST 1048576: true; the input reads as it did. -/
def scrubPagesUptoRow : OpenClaim := { program := "ytfongpdeflfioaagreat", sum := "642a35b3efe21e930a51120b3cf3bdcc298d50d265ff9196e11b48a7fd984d4a", func := "godown/godownlaw40.ScrubPages", spec := "scrubPages", unfollowed := true, recurses := true, apart := false, narrowed := true }
def ScrubPagesUptoSaid : Prop := scrubPagesUptoRow.holds Tryz.pinned (OpenSpec.upto scrubPagesSpec)

/-- 'godownlaw10.StoreCrashes', WHERE WHAT IT READS IS OF BULK AT MOST 1048576: true; the input reads as it did. -/
def storeCrashesUptoRow : OpenClaim := { program := "ytfongpdeflfioaagreat", sum := "642a35b3efe21e930a51120b3cf3bdcc298d50d265ff9196e11b48a7fd984d4a", func := "godown/godownlaw10.StoreCrashes", spec := "storeCrashes", unfollowed := true, recurses := true, apart := false, narrowed := true }
def StoreCrashesUptoSaid : Prop := storeCrashesUptoRow.holds Tryz.pinned (OpenSpec.upto storeCrashesSpec)

/-- 'godownlaw10.StoreRefuses', WHERE WHAT IT READS IS OF BULK AT MOST 1048576: true; the input reads as it did. -/
def storeRefusesUptoRow : OpenClaim := { program := "ytfongpdeflfioaagreat", sum := "642a35b3efe21e930a51120b3cf3bdcc298d50d265ff9196e11b48a7fd984d4a", func := "godown/godownlaw10.StoreRefuses", spec := "storeRefuses", unfollowed := true, recurses := true, apart := false, narrowed := true }
def StoreRefusesUptoSaid : Prop := storeRefusesUptoRow.holds Tryz.pinned (OpenSpec.upto storeRefusesSpec)

/-- 'godownlaw10.StoreOwn', WHERE WHAT IT READS IS OF BULK AT MOST 1048576: true; the input reads as it did. -/
def storeOwnUptoRow : OpenClaim := { program := "ytfongpdeflfioaagreat", sum := "642a35b3efe21e930a51120b3cf3bdcc298d50d265ff9196e11b48a7fd984d4a", func := "godown/godownlaw10.StoreOwn", spec := "storeOwn", unfollowed := true, recurses := true, apart := false, narrowed := true }
def StoreOwnUptoSaid : Prop := storeOwnUptoRow.holds Tryz.pinned (OpenSpec.upto storeOwnSpec)

/-- 'godownlaw10.StoreOpens', WHERE WHAT IT READS IS OF BULK AT MOST 1048576: true; the input reads as it did. -/
def storeOpensUptoRow : OpenClaim := { program := "ytfongpdeflfioaagreat", sum := "642a35b3efe21e930a51120b3cf3bdcc298d50d265ff9196e11b48a7fd984d4a", func := "godown/godownlaw10.StoreOpens", spec := "storeOpens", unfollowed := true, recurses := true, apart := false, narrowed := true }
def StoreOpensUptoSaid : Prop := storeOpensUptoRow.holds Tryz.pinned (OpenSpec.upto storeOpensSpec)

/-- 'godownlaw40.ScrubFinds', WHERE WHAT IT READS IS OF BULK AT MOST 1048576: true; the input reads as it did. -/
def scrubFindsUptoRow : OpenClaim := { program := "ytfongpdeflfioaagreat", sum := "642a35b3efe21e930a51120b3cf3bdcc298d50d265ff9196e11b48a7fd984d4a", func := "godown/godownlaw40.ScrubFinds", spec := "scrubFinds", unfollowed := true, recurses := true, apart := false, narrowed := true }
def ScrubFindsUptoSaid : Prop := scrubFindsUptoRow.holds Tryz.pinned (OpenSpec.upto scrubFindsSpec)

/-- 'godownlaw40.ScrubSound', WHERE WHAT IT READS IS OF BULK AT MOST 1048576: true; the input reads as it did. -/
def scrubSoundUptoRow : OpenClaim := { program := "ytfongpdeflfioaagreat", sum := "642a35b3efe21e930a51120b3cf3bdcc298d50d265ff9196e11b48a7fd984d4a", func := "godown/godownlaw40.ScrubSound", spec := "scrubSound", unfollowed := true, recurses := true, apart := false, narrowed := true }
def ScrubSoundUptoSaid : Prop := scrubSoundUptoRow.holds Tryz.pinned (OpenSpec.upto scrubSoundSpec)

end Rows
end Go.Proofs.YtfongpdeflfioaaGreat
