/- A record that comes in, and a list of records. -/
import Derived.Test.YtmbnmggpnbapbaaOpens
import Derived.Test.YtmbnmggpnbapbaaWhole
namespace Go.Proofs.Ytmbnmggpnbapbaa
open Go.RowKit Go.ChangeShapes Go.WideShapes Go.Deep Go.Joins
section
variable {H : Type} {enc : TypeId × Value → H} {w : World}
theorem opens_prop : Opens enc Try.prog w 49 Prp.cells (fun p => p.name.size ≤ reachBytes ∧ p.value.size ≤ reachBytes) :=
  (opens_struct Try.underlying49 (by kernel_rfl) (OpensF.cons 1 (opens_str Try.underlying9) rfl (by kernel_rfl) (OpensF.cons 1 (opens_str Try.underlying9) rfl (by kernel_rfl) OpensF.nil))).map
    (fun x => ⟨x.1, x.2.1⟩) (fun _ => rfl) (fun _ h => ⟨h.1, h.2.1⟩)
theorem opens_sum : Opens enc Try.prog w 26 (fun x : Int × Int × Int × Int => [.int .u64 x.1, .int .u64 x.2.1, .int .u64 x.2.2.1, .int .u64 x.2.2.2]) (fun _ => True) :=
  (opens_struct Try.underlying26 (by kernel_rfl) (OpensF.cons 1 (opens_int Try.underlying24) rfl (by kernel_rfl) (OpensF.cons 1 (opens_int Try.underlying24) rfl (by kernel_rfl)
    (OpensF.cons 1 (opens_int Try.underlying24) rfl (by kernel_rfl) (OpensF.cons 1 (opens_int Try.underlying24) rfl (by kernel_rfl) OpensF.nil))))).map
    (fun x => (x.1, x.2.1, x.2.2.1, x.2.2.2.1)) (fun _ => rfl) (fun _ _ => trivial)
theorem opens_rec : Opens enc Try.prog w 28 Rec.cells (fun x => x.wf ∧ Rd w 0 w.heap.size x.oA (prps x.own)) :=
  (opens_struct Try.underlying28 (by kernel_rfl)
    (OpensF.cons 1 (opens_int Try.underlying3) rfl (by kernel_rfl) (OpensF.cons 1 (opens_str Try.underlying9) rfl (by kernel_rfl) (OpensF.cons 1 (opens_int Try.underlying3) rfl (by kernel_rfl) (OpensF.cons 1 (opens_int Try.underlying3) rfl (by kernel_rfl)
    (OpensF.cons 1 (opens_slice 2 Try.underlying23 (by kernel_rfl) (by omega) (fun _ => rfl) opens_prop) rfl (by kernel_rfl) (OpensF.cons 1 (opens_int Try.underlying3) rfl (by kernel_rfl) (OpensF.cons 1 (opens_int Try.underlying3) rfl (by kernel_rfl)
    (OpensF.cons 1 (opens_str Try.underlying9) rfl (by kernel_rfl) (OpensF.cons 4 opens_sum rfl (by kernel_rfl) OpensF.nil)))))))))).map
    (fun ⟨k, n, f, g, o, i, c, d, s, _⟩ => ⟨k, n, f, g, o.A, o.n, o.c, o.xs, i, c, d, s.1, s.2.1, s.2.2.1, s.2.2.2⟩) (fun _ => rfl)
    (fun ⟨k, n, f, g, o, i, c, d, s, _⟩ ⟨h1, h2, h3, h4, h5, h6, h7, h8, _⟩ => ⟨⟨h3, h4, h6, h7, h1, Nat.le_trans h2 (by decide), Nat.le_trans h8 (by decide), h5.len, Nat.le_trans h5.le h5.cap,
      fun p hp => ⟨Nat.le_trans (h5.all p hp).1 (by decide), Nat.le_trans (h5.all p hp).2 (by decide)⟩⟩, h5.rd⟩)
theorem opens_recs : Opens enc Try.prog w 22 (fun s : Sl Rec => [s.val]) (Sl.In Try.prog w 28 Rec.cells (fun x => x.wf ∧ Rd w 0 w.heap.size x.oA (prps x.own))) :=
  opens_slice 12 Try.underlying22 (by kernel_rfl) (by omega) (fun _ => rfl) opens_rec
end
end Go.Proofs.Ytmbnmggpnbapbaa
