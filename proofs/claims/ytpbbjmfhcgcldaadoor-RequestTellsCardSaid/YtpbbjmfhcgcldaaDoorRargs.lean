/- A request, a reply that come in. -/
import Derived.Test.YtpbbjmfhcgcldaaDoorRps
namespace Go.Proofs.YtpbbjmfhcgcldaaDoor
open Go.RowKit Go.ChangeShapes Go.WideShapes Go.Deep Go.Joins
section
variable {H : Type} {enc : TypeId × Value → H} {w : World}
theorem str_flat (l : List ByteArray) : l.flatMap (fun s => [Value.string s]) = l.map Value.string := by
  induction l with
  | nil => rfl
  | cons s l ih => rw [List.flatMap_cons, ih]; rfl
theorem i64_of {z : Int} (h : IntKind.i64.min ≤ z ∧ z ≤ IntKind.i64.max) : I64 z := h
theorem opens_req : Opens enc Tryd.prog w 23 Req.cells Req.Ok :=
  (opens_struct Tryd.underlying23 (by kernel_rfl) (OpensF.cons 1 (opens_str Tryd.underlying9) rfl (by kernel_rfl) (OpensF.cons 1 (opens_str Tryd.underlying9) rfl (by kernel_rfl) (OpensF.cons 1 (opens_int Tryd.underlying3) rfl (by kernel_rfl)
    (OpensF.cons 1 (opens_str Tryd.underlying9) rfl (by kernel_rfl) (OpensF.cons 1 (opens_str Tryd.underlying9) rfl (by kernel_rfl) (OpensF.cons 1 (opens_str Tryd.underlying9) rfl (by kernel_rfl)
    (OpensF.cons 1 (opens_int Tryd.underlying3) rfl (by kernel_rfl) (OpensF.cons 1 (opens_int Tryd.underlying3) rfl (by kernel_rfl) (OpensF.cons 1 (opens_str Tryd.underlying9) rfl (by kernel_rfl) OpensF.nil)))))))))).map
    (fun x => ⟨x.1, x.2.1, x.2.2.1, x.2.2.2.1, x.2.2.2.2.1, x.2.2.2.2.2.1, x.2.2.2.2.2.2.1, x.2.2.2.2.2.2.2.1, x.2.2.2.2.2.2.2.2.1⟩) (fun _ _ => rfl) (fun _ h => ⟨i64_of h.2.2.1, i64_of h.2.2.2.2.2.2.1, i64_of h.2.2.2.2.2.2.2.1⟩)
theorem bytesStr : Tryd.prog.bytesOf 9 = 16 := by kernel_rfl
theorem opens_texts : Opens enc Tryd.prog w 25 (fun s : Sl ByteArray => [s.val]) (Sl.In Tryd.prog w 9 (fun s : ByteArray => [Value.string s]) (fun s => s.size ≤ reachBytes)) :=
  opens_slice 1 Tryd.underlying25 (by kernel_rfl) (by omega) (fun _ => rfl) (opens_str Tryd.underlying9)
theorem opens_rep : Opens enc Tryd.prog w 27 Rep.cells (fun p => Rep.At w 0 w.heap.size p ∧ (p.list.n + 3) * 16 ≤ 140737488355328) :=
  (opens_struct Tryd.underlying27 (by kernel_rfl) (OpensF.cons 1 (opens_int Tryd.underlying24) rfl (by kernel_rfl) (OpensF.cons 1 (opens_int Tryd.underlying3) rfl (by kernel_rfl) (OpensF.cons 1 (opens_str Tryd.underlying9) rfl (by kernel_rfl)
    (OpensF.cons 1 opens_texts rfl (by kernel_rfl) OpensF.nil))))).map
    (fun x => ⟨x.1, x.2.1, x.2.2.1, x.2.2.2.1⟩) (fun _ _ => rfl) (fun x h => ⟨⟨i64_of h.1, i64_of h.2.1, h.2.2.2.1.len, h.2.2.2.1.le, h.2.2.2.1.cap, by have := h.2.2.2.1.rd; rw [str_flat] at this; exact this⟩, by
      have := h.2.2.2.1.bytes
      rw [bytesStr] at this
      simp only [reachBytes] at this
      show (x.2.2.2.1.n + 3) * 16 ≤ _
      omega⟩)
end
end Go.Proofs.YtpbbjmfhcgcldaaDoor
