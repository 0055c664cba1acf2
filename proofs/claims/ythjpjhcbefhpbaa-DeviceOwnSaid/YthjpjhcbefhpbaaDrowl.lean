/- Acts, flags that come in. -/
import Derived.Test.YthjpjhcbefhpbaaDrow
import Derived.Test.YthjpjhcbefhpbaaDo
namespace Go.Proofs.Ythjpjhcbefhpbaa
open Go.RowKit Go.ChangeShapes Go.WideShapes Go.Deep Go.Joins
section
variable {H : Type} {enc : TypeId × Value → H} {w : World}
theorem opens_boolc : Opens enc Try.prog w 4 boolc (fun _ => True) := opens_bool Try.underlying4
theorem opens_bools : Opens enc Try.prog w 23 (fun s : Sl Bool => [s.val]) (fun s => Ks w s.A s.n s.c s.xs) :=
  (opens_slice 1 Try.underlying23 (by kernel_rfl) (by omega) (fun _ => rfl) opens_boolc).map (fun s => s) (fun _ _ => rfl) (fun s h => ⟨h.len, Nat.le_trans h.le h.cap, h.rd⟩)
theorem bytesA : Try.prog.bytesOf 36 = 40 := by kernel_rfl
theorem opens_acts : Opens enc Try.prog w 22 (fun s : Sl Ac => [s.val]) (fun s => Acs w s.A s.n s.c s.xs ∧ (s.n + 1) * 40 ≤ 140737488355328) :=
  (opens_slice 3 Try.underlying22 (by kernel_rfl) (by omega) (fun _ => rfl) opens_act).map (fun s => s) (fun _ _ => rfl) (fun s h => ⟨⟨h.len, Nat.le_trans h.le h.cap, h.rd, h.all⟩, by
    have := h.bytes
    rw [bytesA] at this
    simp only [reachBytes] at this
    omega⟩)
end
end Go.Proofs.Ythjpjhcbefhpbaa
