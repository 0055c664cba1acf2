/- The texts OpenB, Sopen, Sopn in one file. -/
import Derived.Test.YtmecjjmlccdppaaGreatDoorM8
import Derived.Test.YtmecjjmlccdppaaGreatDoorM33
import Derived.Test.YtmecjjmlccdppaaGreatDoorM15
import Derived.Test.YtmecjjmlccdppaaGreatDoorM25
/- Arguments that come in, where the whole is of bulk at most 1048576: openers that are put together. -/
namespace Go.Proofs.YtmecjjmlccdppaaGreatDoor.opb
open Go.RowKit Go.ChangeShapes Go.WideShapes Go.Deep Go.Joins
set_option linter.unusedVariables false

/-- what is said of a slice that came in -/
structure In {α : Type} (w : World) (cells : α → List Value) (I : α → Prop) (s : Sl α) : Prop where
  len : s.n = s.xs.length
  le : s.n ≤ s.c
  cap : s.c ≤ maxLen
  small : s.n ≤ 1048576
  rd : Rd w 0 w.heap.size s.A (s.xs.flatMap cells)
  all : ∀ x ∈ s.xs, I x
section
variable {H : Type} {enc : TypeId × Value → H} {P : Program} {w : World} {t e : TypeId} {α β : Type}
def Opens (enc : TypeId × Value → H) (P : Program) (w : World) (t : TypeId) (cells : α → List Value) (I : α → Prop) : Prop :=
  ∀ (spare : Nat → Bool) (held : Bool) (fuel : Nat) (cs : List Value) (x : DataW H × List MemPlace), DataW.trod enc P w 0 spare held fuel t cs = some x → Rows.uptoBulk x.1 ≤ 1048576 → ∃ a, cs = cells a ∧ I a
theorem opens_int {k : IntKind} (ht : P.underlying t = some (.int k)) : Opens enc P w t (fun z : Int => [.int k z]) (fun z => k.min ≤ z ∧ z ≤ k.max) := fun _ _ _ _ _ h _ => by
  obtain ⟨n, rfl, _, hw⟩ := DataW.trod_int ht h
  simp only [Lit.wf, Bool.and_eq_true, decide_eq_true_eq] at hw
  exact ⟨n, rfl, hw⟩
theorem opens_bool (ht : P.underlying t = some .bool) : Opens enc P w t (fun z : Bool => [.bool z]) (fun _ => True) := fun _ _ _ _ _ h _ => by
  obtain ⟨n, rfl, _⟩ := DataW.trod_bool ht h
  exact ⟨n, rfl, trivial⟩
theorem opens_str (ht : P.underlying t = some .string) : Opens enc P w t (fun s : ByteArray => [.string s]) (fun s => s.size ≤ 1048576) := fun _ _ _ _ _ h hw => by
  obtain ⟨s, rfl, rfl, _⟩ := DataW.trod_string ht h
  refine ⟨s, rfl, ?_⟩
  rw [bulks.string_eq, Array.length_toList] at hw
  exact Nat.le_trans (Nat.le_succ _) hw
theorem Opens.map {cells : α → List Value} {I : α → Prop} {cells' : β → List Value} {I' : β → Prop} (h : Opens enc P w t cells I) (f : α → β) (hc : ∀ a, I a → cells a = cells' (f a)) (hi : ∀ a, I a → I' (f a)) : Opens enc P w t cells' I' := fun _ _ _ _ _ h1 h2 => by
  obtain ⟨a, rfl, ha⟩ := h _ _ _ _ _ h1 h2
  exact ⟨f a, hc a ha, hi a ha⟩
theorem opens_slice (size : Nat) {cells : α → List Value} {I : α → Prop} (ht : P.underlying t = some (.slice e)) (hC : P.cellsOf e = size) (h0 : 0 < size) (hs : ∀ a, (cells a).length = size) (el : Opens enc P w e cells I) :
    Opens enc P w t (fun s : Sl α => [s.val]) (In w cells I) := fun spare held fuel cs x h hw => by
  subst hC
  rcases open_slice ht h with ⟨rfl, rfl⟩ | ⟨a, len, cap, m, n, D, Pl, rfl, _, hl, hm, hmm, rfl, hi⟩
  · exact ⟨⟨none, 0, 0, []⟩, rfl, ⟨rfl, Nat.le_refl _, Nat.zero_le _, Nat.zero_le _, Rd.nil, fun _ h => by simp at h⟩⟩
  · have hb := bulks.slice_le ((List.range len).map D) ((List.range (m - len)).map fun j => D (len + j))
    have hb2 := bulks.slice_elems ((List.range len).map D) ((List.range (m - len)).map fun j => D (len + j))
    have hw' : Rows.uptoBulk (.slice ((List.range len).map D) ((List.range (m - len)).map fun j => D (len + j))) ≤ 1048576 := hw
    have hsm : len ≤ 1048576 := by
      simp only [List.length_map, List.length_range] at hb
      omega
    rcases Nat.eq_zero_or_pos len with hlen | hlen
    · subst hlen
      exact ⟨⟨some a, 0, cap, []⟩, rfl, ⟨rfl, hl, hm, Nat.zero_le _, Rd.nil, fun _ h => by simp at h⟩⟩
    · have hml : len ≤ m := by rw [hmm]; split <;> omega
      have one : ∀ i, i < len → ∃ y : α, I y ∧ ∀ j u, (cells y)[j]? = some u → w.cell? (a.add (i * P.cellsOf e + j)) = some u := by
        intro i hil
        obtain ⟨cs', hc, ht'⟩ := hi i (by omega)
        obtain ⟨y, rfl, hy⟩ := el _ _ _ _ _ ht' (by
          have h1 := bulks.part_le (d := D i) (l := (List.range len).map D) (List.mem_map_of_mem (List.mem_range.2 hil))
          show Rows.uptoBulk (D i) ≤ _
          omega)
        obtain ⟨_, _, hat⟩ := World.cells?_some hc
        refine ⟨y, hy, fun j u hu => ?_⟩
        have hj : j < P.cellsOf e := by
          have := (List.getElem?_eq_some_iff.1 hu).1
          rwa [hs] at this
        rw [← Go.Deep.add_add, hat j hj, hu]
      have key : ∀ i, ∃ y : α, i < len → I y ∧ ∀ j u, (cells y)[j]? = some u → w.cell? (a.add (i * P.cellsOf e + j)) = some u := by
        intro i
        by_cases hil : i < len
        · obtain ⟨y, h1, h2⟩ := one i hil
          exact ⟨y, fun _ => ⟨h1, h2⟩⟩
        · obtain ⟨y, _⟩ := one 0 hlen
          exact ⟨y, fun h => absurd h hil⟩
      obtain ⟨g, hg⟩ := Classical.axiomOfChoice key
      refine ⟨⟨some a, len, cap, (List.range len).map g⟩, rfl, ⟨by simp, hl, hm, hsm, plain_of_cells fun i u hu => ?_, fun x hx => ?_⟩⟩
      · have hil : i < len * P.cellsOf e := by
          have := (List.getElem?_eq_some_iff.1 hu).1
          rw [flat_length hs] at this
          simpa using this
        have hk : i / P.cellsOf e < len := Nat.div_lt_of_lt_mul (by rw [Nat.mul_comm]; exact hil)
        have hij : i / P.cellsOf e * P.cellsOf e + i % P.cellsOf e = i := Nat.div_add_mod' i (P.cellsOf e)
        rw [← hij, flat_get hs _ _ _ (Nat.mod_lt _ h0) (by simpa using hk)] at hu
        simp only [List.getElem_map, List.getElem_range] at hu
        rw [← hij]
        exact (hg _ hk).2 _ u hu
      · simp only [List.mem_map, List.mem_range] at hx
        obtain ⟨i, hil, rfl⟩ := hx
        exact (hg i hil).1
def OpensF (enc : TypeId × Value → H) (P : Program) (w : World) (L : Nat) (fs : List Field) (off : Nat) (cells : α → List Value) (I : α → Prop) : Prop :=
  ∀ (spare : Nat → Bool) (held : Bool) (fuel : Nat) (cs : List Value) (ys : List (DataW H × List MemPlace)), cs.length = L → ys.length = fs.length →
    (∀ (i : Nat) (f : Field), fs[i]? = some f → DataW.trod enc P w 0 spare held fuel f.type ((cs.drop f.offset).take (P.cellsOf f.type)) = ys[i]?) →
    Rows.uptoBulkAll (ys.map (·.1)) ≤ 1048576 → ∃ a, cs.drop off = cells a ∧ I a
theorem OpensF.nil {L : Nat} : OpensF enc P w L [] L (fun _ : Unit => []) (fun _ => True) := fun _ _ _ cs _ hl _ _ _ => ⟨(), List.drop_eq_nil_of_le (by omega), trivial⟩
theorem OpensF.cons (size : Nat) {L off : Nat} {f : Field} {fs : List Field} {cells : α → List Value} {I : α → Prop} {cells' : β → List Value} {I' : β → Prop} (h : Opens enc P w f.type cells I) (ho : f.offset = off) (hc : P.cellsOf f.type = size)
    (r : OpensF enc P w L fs (off + size) cells' I') : OpensF enc P w L (f :: fs) off (fun x : α × β => cells x.1 ++ cells' x.2) (fun x => I x.1 ∧ I' x.2) := fun spare held fuel cs ys hl hy hf hw => by
  subst ho hc
  cases ys with
  | nil => simp at hy
  | cons y ys =>
    simp only [List.map_cons, Rows.uptoBulkAll] at hw
    obtain ⟨a, ha, hi⟩ := h _ _ _ _ y (hf 0 f rfl) (by omega)
    obtain ⟨b, hb, hj⟩ := r spare held fuel cs ys hl (by simpa using hy) (fun i g hg => hf (i + 1) g hg) (by omega)
    refine ⟨(a, b), ?_, hi, hj⟩
    show _ = cells a ++ cells' b
    rw [← ha, ← hb, ← List.drop_drop, List.take_append_drop]
theorem opens_struct {L : Nat} {fs : Array Field} {cells : α → List Value} {I : α → Prop} (hu : P.underlying t = some (.struct fs)) (hL : P.cellsOf t = L) (hF : OpensF enc P w L fs.toList 0 cells I) : Opens enc P w t cells I := fun spare held fuel cs x h hw => by
  obtain ⟨ys, n, _, rfl, hlen, hyl, hf⟩ := DataW.trod_struct hu h
  obtain ⟨a, ha, hi⟩ := hF spare held n cs ys (hlen.trans hL) (by simpa using hyl) (fun i f hif => hf i f (by simpa using hif)) (by
    have h1 : Rows.uptoBulk (DataW.agg (ys.map (·.1))) ≤ 1048576 := hw
    simp only [Rows.uptoBulk] at h1
    omega)
  exact ⟨a, by simpa using ha, hi⟩
/-- a parameter that is a struct -/
theorem Opens.param_struct {fs : Array Field} {cells : α → List Value} {I : α → Prop} (h : Opens enc P w t cells I) (hu : P.underlying t = some (.struct fs)) {r : Reach} {b0 : Nat} {spare : Nat → Bool} {held : Bool} {v : Value} {d : DataW H} {p : List MemPlace}
    (hv : Value.okWide P w r b0 t v) (ht : DataW.Trod enc P w 0 spare held t v d p) (hw : Rows.uptoBulk d ≤ 1048576) : ∃ a, v = .agg (cells a).toArray ∧ I a := by
  obtain ⟨cs, rfl, _⟩ := okWide_struct hu hv
  obtain ⟨fuel, hf⟩ := ht
  obtain ⟨a, ha, hi⟩ := h _ _ _ _ _ hf hw
  exact ⟨a, by rw [← ha]; rfl, hi⟩
/-- a parameter that is a slice -/
theorem Opens.param_slice {I : Sl α → Prop} (h : Opens enc P w t (fun s : Sl α => [s.val]) I) (ht : P.underlying t = some (.slice e)) {r : Reach} {b0 : Nat} {spare : Nat → Bool} {held : Bool} {v : Value} {d : DataW H} {p : List MemPlace}
    (hv : Value.okWide P w r b0 t v) (htr : DataW.Trod enc P w 0 spare held t v d p) (hw : Rows.uptoBulk d ≤ 1048576) : ∃ s : Sl α, v = s.val ∧ I s := by
  obtain ⟨A, n, c, rfl⟩ := okWide_slice ht hv
  obtain ⟨fuel, hf⟩ := htr
  obtain ⟨a, ha, hi⟩ := h _ _ _ _ _ hf hw
  exact ⟨a, by simpa [Value.cells] using ha, hi⟩
/-- a parameter that is a string -/
theorem param_string (ht : P.underlying t = some .string) {r : Reach} {b0 : Nat} {spare : Nat → Bool} {held : Bool} {v : Value} {d : DataW H} {p : List MemPlace}
    (hv : Value.okWide P w r b0 t v) (htr : DataW.Trod enc P w 0 spare held t v d p) (hw : Rows.uptoBulk d ≤ 1048576) : ∃ s : ByteArray, v = .string s ∧ s.size ≤ 1048576 := by
  obtain ⟨s, rfl, rfl, rfl, hmax⟩ := Go.ChangeMaps.open_string ht hv htr
  rw [bulks.string_eq, Array.length_toList] at hw
  exact ⟨s, rfl, Nat.le_trans (Nat.le_succ _) hw⟩
theorem arg_le {ds : List (DataW H)} {d : DataW H} (h : Rows.uptoBulkAll ds ≤ 1048576) (hd : d ∈ ds) : Rows.uptoBulk d ≤ 1048576 := Nat.le_trans (bulks.part_le hd) h
end
end Go.Proofs.YtmecjjmlccdppaaGreatDoor.opb
/- A stage, a record, a list of blocks, of properties, a snapshot that come in, where the whole is of bulk at most 1048576. -/
namespace Go.Proofs.YtmecjjmlccdppaaGreatDoor.opb
open Go.RowKit Go.ChangeShapes Go.WideShapes Go.Deep Go.Joins
set_option linter.unusedVariables false
section
variable {H : Type} {enc : TypeId × Value → H} {w : World}
theorem opens_blk : Opens enc Tryz.prog w 46 Blk.cells (fun b => b.wf ∧ b.data.size ≤ 1048576) :=
  (opens_struct Tryz.underlying46 (by kernel_rfl) (OpensF.cons 1 (opens_int Tryz.underlying3) rfl (by kernel_rfl) (OpensF.cons 1 (opens_str Tryz.underlying9) rfl (by kernel_rfl) OpensF.nil))).map
    (fun x => ⟨x.1, x.2.1⟩) (fun _ _ => rfl) (fun _ h => ⟨⟨h.1.1, h.1.2, Nat.le_trans h.2.1 (by decide)⟩, h.2.1⟩)
theorem opens_prop : Opens enc Tryz.prog w 79 Prp.cells (fun p => p.name.size ≤ 1048576 ∧ p.value.size ≤ 1048576) :=
  (opens_struct Tryz.underlying79 (by kernel_rfl) (OpensF.cons 1 (opens_str Tryz.underlying9) rfl (by kernel_rfl) (OpensF.cons 1 (opens_str Tryz.underlying9) rfl (by kernel_rfl) OpensF.nil))).map
    (fun x => ⟨x.1, x.2.1⟩) (fun _ _ => rfl) (fun _ h => ⟨h.1, h.2.1⟩)
theorem opens_sum : Opens enc Tryz.prog w 25 Su.cells Su.wf :=
  (opens_struct Tryz.underlying25 (by kernel_rfl) (OpensF.cons 1 (opens_int Tryz.underlying23) rfl (by kernel_rfl) (OpensF.cons 1 (opens_int Tryz.underlying23) rfl (by kernel_rfl)
    (OpensF.cons 1 (opens_int Tryz.underlying23) rfl (by kernel_rfl) (OpensF.cons 1 (opens_int Tryz.underlying23) rfl (by kernel_rfl) OpensF.nil))))).map
    (fun x => ⟨x.1, x.2.1, x.2.2.1, x.2.2.2.1⟩) (fun _ _ => rfl) (fun _ h => ⟨h.1, h.2.1, h.2.2.1, h.2.2.2.1⟩)
theorem opens_props : Opens enc Tryz.prog w 22 (fun s : Sl Prp => [s.val]) (In w Prp.cells (fun p => p.name.size ≤ 1048576 ∧ p.value.size ≤ 1048576)) :=
  opens_slice 2 Tryz.underlying22 (by kernel_rfl) (by omega) (fun _ => rfl) opens_prop
theorem opens_blks : Opens enc Tryz.prog w 28 (fun s : Sl Blk => [s.val]) (In w Blk.cells (fun b => b.wf ∧ b.data.size ≤ 1048576)) :=
  opens_slice 2 Tryz.underlying28 (by kernel_rfl) (by omega) (fun _ => rfl) opens_blk
/-- a record that came in, of moderate bulk -/
structure ROk (w : World) (x : Rec) : Prop where
  wf : x.wf
  rd : Rd w 0 w.heap.size x.oA (prps x.own)
  on : x.on ≤ 1048576
  sum : (sumR x).wf
theorem opens_rec : Opens enc Tryz.prog w 27 Rec.cells (ROk w) :=
  (opens_struct Tryz.underlying27 (by kernel_rfl)
    (OpensF.cons 1 (opens_int Tryz.underlying3) rfl (by kernel_rfl) (OpensF.cons 1 (opens_str Tryz.underlying9) rfl (by kernel_rfl) (OpensF.cons 1 (opens_int Tryz.underlying3) rfl (by kernel_rfl) (OpensF.cons 1 (opens_int Tryz.underlying3) rfl (by kernel_rfl)
    (OpensF.cons 1 opens_props rfl (by kernel_rfl) (OpensF.cons 1 (opens_int Tryz.underlying3) rfl (by kernel_rfl) (OpensF.cons 1 (opens_int Tryz.underlying3) rfl (by kernel_rfl)
    (OpensF.cons 1 (opens_str Tryz.underlying9) rfl (by kernel_rfl) (OpensF.cons 4 opens_sum rfl (by kernel_rfl) OpensF.nil)))))))))).map
    (fun ⟨k, n, f, g, o, i, c, d, s, _⟩ => ⟨k, n, f, g, o.A, o.n, o.c, o.xs, i, c, d, s.a, s.b, s.c, s.d⟩) (fun _ _ => rfl)
    (fun ⟨k, n, f, g, o, i, c, d, s, _⟩ ⟨h1, h2, h3, h4, h5, h6, h7, h8, h9, _⟩ => ⟨⟨h3, h4, h6, h7, h1, Nat.le_trans h2 (by decide), Nat.le_trans h8 (by decide), h5.len, Nat.le_trans h5.le h5.cap,
      fun p hp => ⟨Nat.le_trans (h5.all p hp).1 (by decide), Nat.le_trans (h5.all p hp).2 (by decide)⟩⟩, h5.rd, h5.small, h9⟩)
theorem opens_stage : Opens enc Tryz.prog w 30 Stg.cells (fun x => x.ok w) :=
  (opens_struct Tryz.underlying30 (by kernel_rfl)
    (OpensF.cons 1 (opens_str Tryz.underlying9) rfl (by kernel_rfl) (OpensF.cons 12 opens_rec rfl (by kernel_rfl) (OpensF.cons 1 opens_blks rfl (by kernel_rfl) (OpensF.cons 1 (opens_int Tryz.underlying3) rfl (by kernel_rfl) (OpensF.cons 1 (opens_int Tryz.underlying3) rfl (by kernel_rfl)
    (OpensF.cons 4 opens_sum rfl (by kernel_rfl) (OpensF.cons 1 (opens_bool Tryz.underlying4) rfl (by kernel_rfl) OpensF.nil)))))))).map
    (fun ⟨i, r, b, p, n, s, d, _⟩ => ⟨i, r, b.A, b.n, b.c, b.xs, p, n, s, d⟩) (fun _ _ => rfl)
    (fun ⟨i, r, b, p, n, s, d, _⟩ ⟨h1, h2, h3, h4, h5, h6, _, _⟩ => ⟨Nat.le_trans h1 (by decide), h2.wf, h2.rd, Nat.le_trans h2.on (by decide), h2.sum, h3.len, Nat.le_trans h3.small (by decide), h3.rd, fun y hy => (h3.all y hy).1, h4, h5, h6⟩)
end
end Go.Proofs.YtmecjjmlccdppaaGreatDoor.opb
/- A snapshot that comes in, where the whole is of bulk at most 1048576. -/
namespace Go.Proofs.YtmecjjmlccdppaaGreatDoor.opb
open Go.RowKit Go.ChangeShapes Go.WideShapes Go.Deep Go.Joins
set_option linter.unusedVariables false
theorem strs_map (l : List ByteArray) : l.flatMap (fun s => [Value.string s]) = l.map Value.string := by
  induction l with
  | nil => rfl
  | cons s l ih => rw [List.flatMap_cons, ih]; rfl
section
variable {H : Type} {enc : TypeId × Value → H} {w : World}
theorem opens_strs : Opens enc Tryz.prog w 48 (fun s : Sl ByteArray => [s.val]) (In w (fun s => [.string s]) (fun s => s.size ≤ 1048576)) :=
  opens_slice 1 Tryz.underlying48 (by kernel_rfl) (by omega) (fun _ => rfl) (opens_str Tryz.underlying9)
theorem opens_snap : Opens enc Tryz.prog w 50 Snp.cells (fun x => x.ok w) :=
  (opens_struct Tryz.underlying50 (by kernel_rfl)
    (OpensF.cons 1 (opens_str Tryz.underlying9) rfl (by kernel_rfl) (OpensF.cons 1 (opens_int Tryz.underlying3) rfl (by kernel_rfl) (OpensF.cons 1 opens_blks rfl (by kernel_rfl) (OpensF.cons 1 opens_strs rfl (by kernel_rfl) (OpensF.cons 1 opens_props rfl (by kernel_rfl) OpensF.nil)))))).map
    (fun ⟨n, g, b, t, o, _⟩ => ⟨n, g, b.A, b.n, b.c, b.xs, t.A, t.n, t.c, t.xs, o.A, o.n, o.c, o.xs⟩) (fun _ _ => rfl)
    (fun ⟨n, g, b, t, o, _⟩ ⟨h1, h2, h3, h4, h5, _⟩ => ⟨⟨h3.len, Nat.le_trans h3.small (by decide), h3.rd, h4.len, Nat.le_trans h4.small (by decide), by have h := h4.rd; rw [strs_map] at h; exact h, h5.len, Nat.le_trans h5.small (by decide), h5.rd⟩,
      Nat.le_trans h3.small (by decide), h3.le, fun y hy => (h3.all y hy).1, Nat.le_trans h5.small (by decide), Nat.le_trans h1 (by decide), h2, fun p hp => ⟨Nat.le_trans (h5.all p hp).1 (by decide), Nat.le_trans (h5.all p hp).2 (by decide)⟩⟩)
end
end Go.Proofs.YtmecjjmlccdppaaGreatDoor.opb
