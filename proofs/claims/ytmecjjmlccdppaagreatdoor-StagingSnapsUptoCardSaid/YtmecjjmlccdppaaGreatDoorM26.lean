/- The texts Sopen in one file. -/
import Derived.Test.YtmecjjmlccdppaaGreatDoorM25
import Derived.Test.YtmecjjmlccdppaaGreatDoorM14
/- A stage, a record, a list of blocks, of properties, a snapshot that come in, where the whole is of bulk at most 1048576. -/
namespace Go.Proofs.YtmecjjmlccdppaaGreatDoor.opb
open Go.RowKit Go.ChangeShapes Go.WideShapes Go.Deep Go.Joins
set_option linter.unusedVariables false
section
variable {H : Type} {enc : TypeId × Value → H} {w : World}
theorem opens_blk : Opens enc Tryz.prog w 46 Blk.cells (fun b => b.wf ∧ b.data.size ≤ 1048576) :=
  (opens_struct Tryz.underlying46 (by kernel_rfl) (OpensF.cons 1 (opens_int Tryz.underlying3) rfl (by kernel_rfl) (OpensF.cons 1 (opens_str Tryz.underlying9) rfl (by kernel_rfl) OpensF.nil))).map
    (fun x => ⟨x.1, x.2.1⟩) (fun _ _ => rfl) (fun _ h => ⟨⟨h.1.1, h.1.2, Nat.le_trans h.2.1 (by decide)⟩, h.2.1⟩)
theorem opens_prop : Opens enc Tryz.prog w 79 Prp.cells (fun p => p.name.size ≤ 1048576 ∧ p.value.size ≤ 1048576) :=
  (opens_struct Tryz.underlying79 (by kernel_rfl) (OpensF.cons 1 (opens_str Tryz.underlying9) rfl (by kernel_rfl) (OpensF.cons 1 (opens_str Tryz.underlying9) rfl (by kernel_rfl) OpensF.nil))).map
    (fun x => ⟨x.1, x.2.1⟩) (fun _ _ => rfl) (fun _ h => ⟨h.1, h.2.1⟩)
theorem opens_sum : Opens enc Tryz.prog w 25 Su.cells Su.wf :=
  (opens_struct Tryz.underlying25 (by kernel_rfl) (OpensF.cons 1 (opens_int Tryz.underlying23) rfl (by kernel_rfl) (OpensF.cons 1 (opens_int Tryz.underlying23) rfl (by kernel_rfl)
    (OpensF.cons 1 (opens_int Tryz.underlying23) rfl (by kernel_rfl) (OpensF.cons 1 (opens_int Tryz.underlying23) rfl (by kernel_rfl) OpensF.nil))))).map
    (fun x => ⟨x.1, x.2.1, x.2.2.1, x.2.2.2.1⟩) (fun _ _ => rfl) (fun _ h => ⟨h.1, h.2.1, h.2.2.1, h.2.2.2.1⟩)
theorem opens_props : Opens enc Tryz.prog w 22 (fun s : Sl Prp => [s.val]) (In w Prp.cells (fun p => p.name.size ≤ 1048576 ∧ p.value.size ≤ 1048576)) :=
  opens_slice 2 Tryz.underlying22 (by kernel_rfl) (by omega) (fun _ => rfl) opens_prop
theorem opens_blks : Opens enc Tryz.prog w 28 (fun s : Sl Blk => [s.val]) (In w Blk.cells (fun b => b.wf ∧ b.data.size ≤ 1048576)) :=
  opens_slice 2 Tryz.underlying28 (by kernel_rfl) (by omega) (fun _ => rfl) opens_blk
/-- a record that came in, of moderate bulk -/
structure ROk (w : World) (x : Rec) : Prop where
  wf : x.wf
  rd : Rd w 0 w.heap.size x.oA (prps x.own)
  on : x.on ≤ 1048576
  sum : (sumR x).wf
theorem opens_rec : Opens enc Tryz.prog w 27 Rec.cells (ROk w) :=
  (opens_struct Tryz.underlying27 (by kernel_rfl)
    (OpensF.cons 1 (opens_int Tryz.underlying3) rfl (by kernel_rfl) (OpensF.cons 1 (opens_str Tryz.underlying9) rfl (by kernel_rfl) (OpensF.cons 1 (opens_int Tryz.underlying3) rfl (by kernel_rfl) (OpensF.cons 1 (opens_int Tryz.underlying3) rfl (by kernel_rfl)
    (OpensF.cons 1 opens_props rfl (by kernel_rfl) (OpensF.cons 1 (opens_int Tryz.underlying3) rfl (by kernel_rfl) (OpensF.cons 1 (opens_int Tryz.underlying3) rfl (by kernel_rfl)
    (OpensF.cons 1 (opens_str Tryz.underlying9) rfl (by kernel_rfl) (OpensF.cons 4 opens_sum rfl (by kernel_rfl) OpensF.nil)))))))))).map
    (fun ⟨k, n, f, g, o, i, c, d, s, _⟩ => ⟨k, n, f, g, o.A, o.n, o.c, o.xs, i, c, d, s.a, s.b, s.c, s.d⟩) (fun _ _ => rfl)
    (fun ⟨k, n, f, g, o, i, c, d, s, _⟩ ⟨h1, h2, h3, h4, h5, h6, h7, h8, h9, _⟩ => ⟨⟨h3, h4, h6, h7, h1, Nat.le_trans h2 (by decide), Nat.le_trans h8 (by decide), h5.len, Nat.le_trans h5.le h5.cap,
      fun p hp => ⟨Nat.le_trans (h5.all p hp).1 (by decide), Nat.le_trans (h5.all p hp).2 (by decide)⟩⟩, h5.rd, h5.small, h9⟩)
theorem opens_stage : Opens enc Tryz.prog w 30 Stg.cells (fun x => x.ok w) :=
  (opens_struct Tryz.underlying30 (by kernel_rfl)
    (OpensF.cons 1 (opens_str Tryz.underlying9) rfl (by kernel_rfl) (OpensF.cons 12 opens_rec rfl (by kernel_rfl) (OpensF.cons 1 opens_blks rfl (by kernel_rfl) (OpensF.cons 1 (opens_int Tryz.underlying3) rfl (by kernel_rfl) (OpensF.cons 1 (opens_int Tryz.underlying3) rfl (by kernel_rfl)
    (OpensF.cons 4 opens_sum rfl (by kernel_rfl) (OpensF.cons 1 (opens_bool Tryz.underlying4) rfl (by kernel_rfl) OpensF.nil)))))))).map
    (fun ⟨i, r, b, p, n, s, d, _⟩ => ⟨i, r, b.A, b.n, b.c, b.xs, p, n, s, d⟩) (fun _ _ => rfl)
    (fun ⟨i, r, b, p, n, s, d, _⟩ ⟨h1, h2, h3, h4, h5, h6, _, _⟩ => ⟨Nat.le_trans h1 (by decide), h2.wf, h2.rd, Nat.le_trans h2.on (by decide), h2.sum, h3.len, Nat.le_trans h3.small (by decide), h3.rd, fun y hy => (h3.all y hy).1, h4, h5, h6⟩)
end
end Go.Proofs.YtmecjjmlccdppaaGreatDoor.opb
