/- A device, an act that come in. -/
import Derived.Test.YthjpjhcbefhpbaaFault
namespace Go.Proofs.Ythjpjhcbefhpbaa
open Go.RowKit Go.ChangeShapes Go.WideShapes Go.Deep Go.Joins
section
variable {H : Type} {enc : TypeId × Value → H} {w : World}
theorem opens_octet : Opens enc Try.prog w 5 octc (fun _ => True) :=
  (opens_int Try.underlying5).map (fun z => UInt8.ofNat z.toNat) (fun z h => by
    have h1 : IntKind.u8.min = 0 := rfl
    have h2 : IntKind.u8.max = 255 := rfl
    rw [h1, h2] at h
    show _ = [Value.int .u8 ((UInt8.ofNat z.toNat).toNat : Int)]
    rw [UInt8.toNat_ofNat', Nat.mod_eq_of_lt (by omega), Int.toNat_of_nonneg h.1]) (fun _ _ => trivial)
theorem opens_oct : Opens enc Try.prog w 34 octv (Oct.At w 0 w.heap.size) :=
  (opens_slice 1 Try.underlying34 (by kernel_rfl) (by omega) (fun _ => rfl) opens_octet).map (fun s => s) (fun _ _ => rfl) (fun _ h => ⟨h.len, h.le, h.cap, h.rd, fun _ _ => trivial⟩)
theorem opens_secs : Opens enc Try.prog w 26 (fun s : Sl Oct => [s.val]) (Sl.In Try.prog w 34 octv (Oct.At w 0 w.heap.size)) :=
  opens_slice 1 Try.underlying26 (by kernel_rfl) (by omega) (fun _ => rfl) opens_oct
theorem i64_in {z : Int} (h : IntKind.i64.min ≤ z ∧ z ≤ IntKind.i64.max) : -9223372036854775808 ≤ z ∧ z ≤ 9223372036854775807 := h
theorem opens_wrt : Opens enc Try.prog w 45 Wrt.cells (Wrt.At w 0 w.heap.size) :=
  (opens_struct Try.underlying45 (by kernel_rfl) (OpensF.cons 1 (opens_int Try.underlying3) rfl (by kernel_rfl) (OpensF.cons 1 opens_oct rfl (by kernel_rfl) OpensF.nil))).map
    (fun x => ⟨x.1, x.2.1⟩) (fun _ _ => rfl) (fun _ h => ⟨(i64_in h.1).1, (i64_in h.1).2, h.2.1⟩)
theorem opens_waits : Opens enc Try.prog w 27 (fun s : Sl Wrt => [s.val]) (Sl.In Try.prog w 45 Wrt.cells (Wrt.At w 0 w.heap.size)) :=
  opens_slice 2 Try.underlying27 (by kernel_rfl) (by omega) (fun _ => rfl) opens_wrt
theorem bytesW : Try.prog.bytesOf 45 = 32 := by kernel_rfl
theorem opens_dev : Opens enc Try.prog w 29 Dev.cells (fun d => Dev.At w 0 w.heap.size d ∧ (d.waits.n + 1) * 32 ≤ 140737488355328) :=
  (opens_struct Try.underlying29 (by kernel_rfl) (OpensF.cons 1 opens_secs rfl (by kernel_rfl) (OpensF.cons 1 opens_waits rfl (by kernel_rfl) OpensF.nil))).map
    (fun x => ⟨x.1, x.2.1⟩) (fun _ _ => rfl) (fun x h => ⟨⟨⟨h.1.len, h.1.le, h.1.cap, h.1.rd, h.1.all⟩, ⟨h.2.1.len, h.2.1.le, h.2.1.cap, h.2.1.rd, h.2.1.all⟩⟩, by
      have := h.2.1.bytes
      rw [bytesW] at this
      simp only [reachBytes] at this
      show (x.2.1.n + 1) * 32 ≤ _
      omega⟩)
theorem opens_act : Opens enc Try.prog w 36 Ac.cells (Ac.At w 0 w.heap.size) :=
  (opens_struct Try.underlying36 (by kernel_rfl) (OpensF.cons 1 (opens_bool Try.underlying4) rfl (by kernel_rfl) (OpensF.cons 1 (opens_int Try.underlying3) rfl (by kernel_rfl) (OpensF.cons 1 opens_oct rfl (by kernel_rfl) OpensF.nil)))).map
    (fun x => ⟨x.1, x.2.1, x.2.2.1⟩) (fun _ _ => rfl) (fun _ h => ⟨(i64_in h.2.1).1, (i64_in h.2.1).2, h.2.2.1⟩)
end
end Go.Proofs.Ythjpjhcbefhpbaa
