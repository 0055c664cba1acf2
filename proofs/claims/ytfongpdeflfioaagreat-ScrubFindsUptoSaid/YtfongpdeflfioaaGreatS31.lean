/- The texts OpenM, Five in one file. -/
import Derived.Test.YtfongpdeflfioaaGreatS30
import Derived.Test.YtfongpdeflfioaaGreatS9
import Derived.Test.YtfongpdeflfioaaGreatS5
import Derived.Test.YtfongpdeflfioaaGreatS18
/- Openers that tell a measure too: what came in is of so much bulk at most. Objects, a device, a store. -/
namespace Go.Proofs.YtfongpdeflfioaaGreat.opm
open Go.RowKit Go.ChangeShapes Go.WideShapes Go.Deep Go.Joins
open Go.Proofs.YtfongpdeflfioaaGreat.opb (In)
set_option linter.unusedVariables false
def sumBy {α : Type} (μ : α → Nat) : List α → Nat
  | [] => 0
  | x :: r => μ x + sumBy μ r
theorem sumBy_mem {α : Type} (μ : α → Nat) {x : α} : ∀ {l : List α}, x ∈ l → μ x ≤ sumBy μ l
  | y :: r, h => by
    rcases List.mem_cons.1 h with rfl | h
    · exact Nat.le_add_right _ _
    · exact Nat.le_trans (sumBy_mem μ h) (Nat.le_add_left _ _)
theorem sumBy_one {α : Type} : ∀ l : List α, sumBy (fun _ => 1) l = l.length
  | [] => rfl
  | x :: r => by rw [sumBy, sumBy_one r, List.length_cons]; omega
theorem sumBy_bulk {α H : Type} (μ : α → Nat) (g : Nat → α) (D : Nat → DataW H) : ∀ l : List Nat, (∀ i ∈ l, μ (g i) ≤ Rows.uptoBulk (D i)) → sumBy μ (l.map g) ≤ Rows.uptoBulkAll (l.map D)
  | [], _ => Nat.zero_le _
  | i :: r, h => by
    have h1 := h i (List.mem_cons_self ..)
    have h2 := sumBy_bulk μ g D r (fun j hj => h j (List.mem_cons_of_mem _ hj))
    simp only [List.map_cons, sumBy, Rows.uptoBulkAll]
    omega
section
variable {H : Type} {enc : TypeId × Value → H} {P : Program} {w : World} {t e : TypeId} {α β : Type}
def Opens (enc : TypeId × Value → H) (P : Program) (w : World) (t : TypeId) (cells : α → List Value) (I : α → Prop) (μ : α → Nat) : Prop :=
  ∀ (spare : Nat → Bool) (held : Bool) (fuel : Nat) (cs : List Value) (x : DataW H × List MemPlace), DataW.trod enc P w 0 spare held fuel t cs = some x → Rows.uptoBulk x.1 ≤ 1048576 → ∃ a, cs = cells a ∧ I a ∧ μ a ≤ Rows.uptoBulk x.1
theorem opens_of {cells : α → List Value} {I : α → Prop} (h : opb.Opens enc P w t cells I) : Opens enc P w t cells I (fun _ => 1) := fun _ _ _ _ _ h1 h2 => by
  obtain ⟨a, rfl, hi⟩ := h _ _ _ _ _ h1 h2
  exact ⟨a, rfl, hi, bulks.one_le _⟩
theorem Opens.map {cells : α → List Value} {I : α → Prop} {μ : α → Nat} {cells' : β → List Value} {I' : β → Prop} {μ' : β → Nat} (h : Opens enc P w t cells I μ) (f : α → β) (hc : ∀ a, I a → cells a = cells' (f a)) (hi : ∀ a, I a → I' (f a)) (hm : ∀ a, I a → μ' (f a) ≤ μ a) : Opens enc P w t cells' I' μ' := fun _ _ _ _ _ h1 h2 => by
  obtain ⟨a, rfl, ha, hn⟩ := h _ _ _ _ _ h1 h2
  exact ⟨f a, hc a ha, hi a ha, Nat.le_trans (hm a ha) hn⟩
theorem opens_slice (size : Nat) {cells : α → List Value} {I : α → Prop} {μ : α → Nat} (ht : P.underlying t = some (.slice e)) (hC : P.cellsOf e = size) (h0 : 0 < size) (hs : ∀ a, (cells a).length = size) (el : Opens enc P w e cells I μ) :
    Opens enc P w t (fun s : Sl α => [s.val]) (In w cells I) (fun s => sumBy μ s.xs) := fun spare held fuel cs x h hw => by
  subst hC
  rcases open_slice ht h with ⟨rfl, rfl⟩ | ⟨a, len, cap, m, n, D, Pl, rfl, _, hl, hm, hmm, rfl, hi⟩
  · exact ⟨⟨none, 0, 0, []⟩, rfl, ⟨rfl, Nat.le_refl _, Nat.zero_le _, Nat.zero_le _, Rd.nil, fun _ h => by simp at h⟩, Nat.zero_le _⟩
  · have hb := bulks.slice_le ((List.range len).map D) ((List.range (m - len)).map fun j => D (len + j))
    have hb2 := bulks.slice_elems ((List.range len).map D) ((List.range (m - len)).map fun j => D (len + j))
    have hw' : Rows.uptoBulk (.slice ((List.range len).map D) ((List.range (m - len)).map fun j => D (len + j))) ≤ 1048576 := hw
    have hsm : len ≤ 1048576 := by
      simp only [List.length_map, List.length_range] at hb
      omega
    rcases Nat.eq_zero_or_pos len with hlen | hlen
    · subst hlen
      exact ⟨⟨some a, 0, cap, []⟩, rfl, ⟨rfl, hl, hm, Nat.zero_le _, Rd.nil, fun _ h => by simp at h⟩, Nat.zero_le _⟩
    · have hml : len ≤ m := by rw [hmm]; split <;> omega
      have one : ∀ i, i < len → ∃ y : α, I y ∧ (∀ j u, (cells y)[j]? = some u → w.cell? (a.add (i * P.cellsOf e + j)) = some u) ∧ μ y ≤ Rows.uptoBulk (D i) := by
        intro i hil
        obtain ⟨cs', hc, ht'⟩ := hi i (by omega)
        obtain ⟨y, rfl, hy, hn⟩ := el _ _ _ _ _ ht' (by
          have h1 := bulks.part_le (d := D i) (l := (List.range len).map D) (List.mem_map_of_mem (List.mem_range.2 hil))
          show Rows.uptoBulk (D i) ≤ _
          omega)
        obtain ⟨_, _, hat⟩ := World.cells?_some hc
        refine ⟨y, hy, fun j u hu => ?_, hn⟩
        have hj : j < P.cellsOf e := by
          have := (List.getElem?_eq_some_iff.1 hu).1
          rwa [hs] at this
        rw [← Go.Deep.add_add, hat j hj, hu]
      have key : ∀ i, ∃ y : α, i < len → I y ∧ (∀ j u, (cells y)[j]? = some u → w.cell? (a.add (i * P.cellsOf e + j)) = some u) ∧ μ y ≤ Rows.uptoBulk (D i) := by
        intro i
        by_cases hil : i < len
        · obtain ⟨y, h1⟩ := one i hil
          exact ⟨y, fun _ => h1⟩
        · obtain ⟨y, _⟩ := one 0 hlen
          exact ⟨y, fun h => absurd h hil⟩
      obtain ⟨g, hg⟩ := Classical.axiomOfChoice key
      refine ⟨⟨some a, len, cap, (List.range len).map g⟩, rfl, ⟨by simp, hl, hm, hsm, plain_of_cells fun i u hu => ?_, fun x hx => ?_⟩, ?_⟩
      · have hil : i < len * P.cellsOf e := by
          have := (List.getElem?_eq_some_iff.1 hu).1
          rw [flat_length hs] at this
          simpa using this
        have hk : i / P.cellsOf e < len := Nat.div_lt_of_lt_mul (by rw [Nat.mul_comm]; exact hil)
        have hij : i / P.cellsOf e * P.cellsOf e + i % P.cellsOf e = i := Nat.div_add_mod' i (P.cellsOf e)
        rw [← hij, flat_get hs _ _ _ (Nat.mod_lt _ h0) (by simpa using hk)] at hu
        simp only [List.getElem_map, List.getElem_range] at hu
        rw [← hij]
        exact (hg _ hk).2.1 _ u hu
      · simp only [List.mem_map, List.mem_range] at hx
        obtain ⟨i, hil, rfl⟩ := hx
        exact (hg i hil).1
      · have h3 := sumBy_bulk μ g D (List.range len) (fun i hil => (hg i (List.mem_range.1 hil)).2.2)
        show sumBy μ ((List.range len).map g) ≤ Rows.uptoBulk (.slice ((List.range len).map D) ((List.range (m - len)).map fun j => D (len + j)))
        omega
def OpensF (enc : TypeId × Value → H) (P : Program) (w : World) (L : Nat) (fs : List Field) (off : Nat) (cells : α → List Value) (I : α → Prop) (μ : α → Nat) : Prop :=
  ∀ (spare : Nat → Bool) (held : Bool) (fuel : Nat) (cs : List Value) (ys : List (DataW H × List MemPlace)), cs.length = L → ys.length = fs.length →
    (∀ (i : Nat) (f : Field), fs[i]? = some f → DataW.trod enc P w 0 spare held fuel f.type ((cs.drop f.offset).take (P.cellsOf f.type)) = ys[i]?) →
    Rows.uptoBulkAll (ys.map (·.1)) ≤ 1048576 → ∃ a, cs.drop off = cells a ∧ I a ∧ μ a ≤ Rows.uptoBulkAll (ys.map (·.1))
theorem OpensF.nil {L : Nat} : OpensF enc P w L [] L (fun _ : Unit => []) (fun _ => True) (fun _ => 0) := fun _ _ _ cs _ hl _ _ _ => ⟨(), List.drop_eq_nil_of_le (by omega), trivial, Nat.zero_le _⟩
theorem OpensF.cons (size : Nat) {L off : Nat} {f : Field} {fs : List Field} {cells : α → List Value} {I : α → Prop} {μ : α → Nat} {cells' : β → List Value} {I' : β → Prop} {μ' : β → Nat} (h : Opens enc P w f.type cells I μ) (ho : f.offset = off) (hc : P.cellsOf f.type = size)
    (r : OpensF enc P w L fs (off + size) cells' I' μ') : OpensF enc P w L (f :: fs) off (fun x : α × β => cells x.1 ++ cells' x.2) (fun x => I x.1 ∧ I' x.2) (fun x => μ x.1 + μ' x.2) := fun spare held fuel cs ys hl hy hf hw => by
  subst ho hc
  cases ys with
  | nil => simp at hy
  | cons y ys =>
    simp only [List.map_cons, Rows.uptoBulkAll] at hw
    obtain ⟨a, ha, hi, hm⟩ := h _ _ _ _ y (hf 0 f rfl) (by omega)
    obtain ⟨b, hb, hj, hn⟩ := r spare held fuel cs ys hl (by simpa using hy) (fun i g hg => hf (i + 1) g hg) (by omega)
    refine ⟨(a, b), ?_, ⟨hi, hj⟩, ?_⟩
    · show _ = cells a ++ cells' b
      rw [← ha, ← hb, ← List.drop_drop, List.take_append_drop]
    · simp only [List.map_cons, Rows.uptoBulkAll]
      omega
theorem opens_struct {L : Nat} {fs : Array Field} {cells : α → List Value} {I : α → Prop} {μ : α → Nat} (hu : P.underlying t = some (.struct fs)) (hL : P.cellsOf t = L) (hF : OpensF enc P w L fs.toList 0 cells I μ) : Opens enc P w t cells I μ := fun spare held fuel cs x h hw => by
  obtain ⟨ys, n, _, rfl, hlen, hyl, hf⟩ := DataW.trod_struct hu h
  obtain ⟨a, ha, hi, hm⟩ := hF spare held n cs ys (hlen.trans hL) (by simpa using hyl) (fun i f hif => hf i f (by simpa using hif)) (by
    have h1 : Rows.uptoBulk (DataW.agg (ys.map (·.1))) ≤ 1048576 := hw
    simp only [Rows.uptoBulk] at h1
    omega)
  refine ⟨a, by simpa using ha, hi, ?_⟩
  show _ ≤ Rows.uptoBulk (DataW.agg (ys.map (·.1)))
  simp only [Rows.uptoBulk]
  omega
theorem Opens.param_struct {fs : Array Field} {cells : α → List Value} {I : α → Prop} {μ : α → Nat} (h : Opens enc P w t cells I μ) (hu : P.underlying t = some (.struct fs)) {r : Reach} {b0 : Nat} {spare : Nat → Bool} {held : Bool} {v : Value} {d : DataW H} {p : List MemPlace}
    (hv : Value.okWide P w r b0 t v) (ht : DataW.Trod enc P w 0 spare held t v d p) (hw : Rows.uptoBulk d ≤ 1048576) : ∃ a, v = .agg (cells a).toArray ∧ I a ∧ μ a ≤ 1048576 := by
  obtain ⟨cs, rfl, _⟩ := okWide_struct hu hv
  obtain ⟨fuel, hf⟩ := ht
  obtain ⟨a, ha, hi, hm⟩ := h _ _ _ _ _ hf hw
  exact ⟨a, by rw [← ha]; rfl, hi, Nat.le_trans hm hw⟩
theorem Opens.param_slice {I : Sl α → Prop} {μ : Sl α → Nat} (h : Opens enc P w t (fun s : Sl α => [s.val]) I μ) (ht : P.underlying t = some (.slice e)) {r : Reach} {b0 : Nat} {spare : Nat → Bool} {held : Bool} {v : Value} {d : DataW H} {p : List MemPlace}
    (hv : Value.okWide P w r b0 t v) (htr : DataW.Trod enc P w 0 spare held t v d p) (hw : Rows.uptoBulk d ≤ 1048576) : ∃ s : Sl α, v = s.val ∧ I s ∧ μ s ≤ 1048576 := by
  obtain ⟨A, n, c, rfl⟩ := okWide_slice ht hv
  obtain ⟨fuel, hf⟩ := htr
  obtain ⟨a, ha, hi, hm⟩ := h _ _ _ _ _ hf hw
  exact ⟨a, by simpa [Value.cells] using ha, hi, Nat.le_trans hm hw⟩
end
section
variable {H : Type} {enc : TypeId × Value → H} {w : World}
theorem In.sl {α : Type} {cells : α → List Value} {I : α → Prop} {s : Sl α} (h : In w cells I s) : Sl.At w 0 w.heap.size cells I s := ⟨h.len, h.le, h.cap, h.rd, h.all⟩
theorem opens_oct : Opens enc Tryz.prog w 33 (fun s : Oct => [s.val]) (fun s => Oct.At w 0 w.heap.size s ∧ s.n ≤ 1048576) (fun s => s.n) :=
  (opens_slice 1 Tryz.underlying33 (by kernel_rfl) (by omega) (fun _ => rfl) ((opens_of (opb.opens_int Tryz.underlying5)).map (fun z => UInt8.ofNat z.toNat) (fun z h => by
    have h1 : (0 : Int) ≤ z ∧ z ≤ 255 := h
    show [Value.int .u8 z] = [.int .u8 ((UInt8.ofNat z.toNat).toNat : Int)]
    rw [UInt8.toNat_ofNat']
    congr 2
    omega) (I' := fun _ => True) (fun _ _ => trivial) (μ' := fun _ => 1) (fun _ _ => Nat.le_refl _))).map id (fun _ _ => rfl) (fun s h => ⟨⟨h.len, h.le, h.cap, h.rd, fun _ _ => trivial⟩, h.small⟩) (fun s h => by rw [sumBy_one, ← h.len]; exact Nat.le_refl _)
theorem opens_loc : Opens enc Tryz.prog w 29 (fun s : Loc => [s.val]) (fun s => Loc.At w 0 w.heap.size s ∧ s.n ≤ 1048576) (fun s => s.n) :=
  (opens_slice 1 Tryz.underlying29 (by kernel_rfl) (by omega) (fun _ => rfl) ((opens_of (opb.opens_int Tryz.underlying3)).map (cells' := intc) id (fun z h => rfl) (I' := fun y => (Lit.int .i64 y).wf = true) (fun y h => by
    simp only [Lit.wf, Bool.and_eq_true, decide_eq_true_eq]; exact h) (μ' := fun _ => 1) (fun _ _ => Nat.le_refl _))).map id (fun _ _ => rfl) (fun s h => ⟨⟨h.len, h.le, h.cap, h.rd, h.all⟩, h.small⟩) (fun s h => by rw [sumBy_one, ← h.len]; exact Nat.le_refl _)
theorem opens_secs : Opens enc Tryz.prog w 22 (fun s : Sl Oct => [s.val]) (fun s => Sl.At w 0 w.heap.size octv (Oct.At w 0 w.heap.size) s) (fun _ => 0) :=
  (opens_slice 1 Tryz.underlying22 (by kernel_rfl) (by omega) (fun _ => rfl) opens_oct).map id (fun _ _ => rfl) (fun s h => ⟨h.len, h.le, h.cap, h.rd, fun x hx => (h.all x hx).1⟩) (fun s h => Nat.zero_le _)
theorem opens_wrt : Opens enc Tryz.prog w 114 Wrt.cells (Wrt.At w 0 w.heap.size) (fun _ => 0) :=
  (opens_struct Tryz.underlying114 (by kernel_rfl) (OpensF.cons 1 (opens_of (opb.opens_int Tryz.underlying3)) rfl (by kernel_rfl) (OpensF.cons 1 opens_oct rfl (by kernel_rfl) OpensF.nil))).map
    (fun x => ⟨x.1, x.2.1⟩) (fun _ _ => rfl) (fun _ h => ⟨h.1.1, h.1.2, h.2.1.1⟩) (fun _ _ => Nat.zero_le _)
theorem opens_wrts : Opens enc Tryz.prog w 23 (fun s : Sl Wrt => [s.val]) (fun s => Sl.At w 0 w.heap.size Wrt.cells (Wrt.At w 0 w.heap.size) s ∧ s.n ≤ 1048576) (fun _ => 0) :=
  (opens_slice 2 Tryz.underlying23 (by kernel_rfl) (by omega) (fun _ => rfl) opens_wrt).map id (fun _ _ => rfl) (fun s h => ⟨⟨h.len, h.le, h.cap, h.rd, h.all⟩, h.small⟩) (fun s h => Nat.zero_le _)
theorem opens_dev : Opens enc Tryz.prog w 25 Dev.cells (fun d => Dev.At w 0 w.heap.size d ∧ d.waits.n ≤ 1048576) (fun _ => 0) :=
  (opens_struct Tryz.underlying25 (by kernel_rfl) (OpensF.cons 1 opens_secs rfl (by kernel_rfl) (OpensF.cons 1 opens_wrts rfl (by kernel_rfl) OpensF.nil))).map
    (fun x => ⟨x.1, x.2.1⟩) (fun _ _ => rfl) (fun _ h => ⟨⟨h.1, h.2.1.1⟩, h.2.1.2⟩) (fun _ _ => Nat.zero_le _)
theorem opens_ub : Opens enc Tryz.prog w 27 Ub.cells Ub.wf (fun _ => 0) :=
  (opens_struct Tryz.underlying27 (by kernel_rfl) (OpensF.cons 1 (opens_of (opb.opens_int Tryz.underlying3)) rfl (by kernel_rfl) (OpensF.cons 1 (opens_of (opb.opens_int Tryz.underlying3)) rfl (by kernel_rfl) (OpensF.cons 1 (opens_of (opb.opens_int Tryz.underlying3)) rfl (by kernel_rfl) OpensF.nil)))).map
    (fun x => ⟨x.1, x.2.1, x.2.2.1⟩) (fun _ _ => rfl) (fun _ h => ⟨h.1.1, h.1.2, h.2.1.1, h.2.1.2, h.2.2.1.1, h.2.2.1.2⟩) (fun _ _ => Nat.zero_le _)
theorem opens_ob : Opens enc Tryz.prog w 35 Ob.cells (fun x => Ob.At w 0 w.heap.size x ∧ x.key.size ≤ 1048576 ∧ x.data.n ≤ 1048576 ∧ x.locs.n ≤ 1048576) (fun x => x.locs.n) :=
  (opens_struct Tryz.underlying35 (by kernel_rfl) (OpensF.cons 1 (opens_of (opb.opens_str Tryz.underlying9)) rfl (by kernel_rfl) (OpensF.cons 1 opens_oct rfl (by kernel_rfl) (OpensF.cons 1 opens_loc rfl (by kernel_rfl) OpensF.nil)))).map
    (fun x => ⟨x.1, x.2.1, x.2.2.1⟩) (fun _ _ => rfl) (fun _ h => ⟨⟨Nat.le_trans h.1 (by decide), h.2.1.1, h.2.2.1.1⟩, h.1, h.2.1.2, h.2.2.1.2⟩) (fun _ _ => by simp only; omega)
theorem opens_objs : Opens enc Tryz.prog w 28 (fun s : Sl Ob => [s.val]) (In w Ob.cells (fun x => Ob.At w 0 w.heap.size x ∧ x.key.size ≤ 1048576 ∧ x.data.n ≤ 1048576 ∧ x.locs.n ≤ 1048576)) (fun s => sumBy (fun x : Ob => x.locs.n) s.xs) :=
  opens_slice 3 Tryz.underlying28 (by kernel_rfl) (by omega) (fun _ => rfl) opens_ob
theorem locs_sum {w : World} {lo hi : Nat} : ∀ {l : List Ob}, (∀ x ∈ l, Ob.At w lo hi x) → (locsL l).length = sumBy (fun x : Ob => x.locs.n) l
  | [], _ => rfl
  | x :: r, h => by
    have h1 := locs_sum (l := r) fun y hy => h y (List.mem_cons_of_mem _ hy)
    have h2 := (h x (List.mem_cons_self ..)).locs.len
    rw [locsL] at h1 ⊢
    rw [List.flatMap_cons, List.length_append, h1, sumBy, h2]
theorem opens_sto : Opens enc Tryz.prog w 31 Sto.cells (fun s => Sto.At w 0 w.heap.size s ∧ s.objs.n ≤ 1048576 ∧ (∀ x ∈ s.objs.xs, x.key.size ≤ 1048576 ∧ x.data.n ≤ 1048576 ∧ x.locs.n ≤ 1048576) ∧ s.dev.waits.n ≤ 1048576) (fun s => (usedL s).length) :=
  (opens_struct Tryz.underlying31 (by kernel_rfl) (OpensF.cons 2 opens_dev rfl (by kernel_rfl) (OpensF.cons 3 opens_ub rfl (by kernel_rfl) (OpensF.cons 1 opens_objs rfl (by kernel_rfl) (OpensF.cons 1 opens_loc rfl (by kernel_rfl) OpensF.nil))))).map
    (fun x => ⟨x.1, x.2.1, x.2.2.1, x.2.2.2.1⟩) (fun _ _ => rfl) (fun _ h => ⟨⟨h.1.1, h.2.1, ⟨h.2.2.1.len, h.2.2.1.le, h.2.2.1.cap, h.2.2.1.rd, fun x hx => (h.2.2.1.all x hx).1⟩, h.2.2.2.1.1⟩, h.2.2.1.small, fun x hx => (h.2.2.1.all x hx).2, h.1.2⟩)
    (fun a h => by
      have h1 := locs_sum (w := w) (lo := 0) (hi := w.heap.size) (l := a.2.2.1.xs) fun x hx => (h.2.2.1.all x hx).1
      have h2 := h.2.2.2.1.1.len
      show (usedL ⟨a.1, a.2.1, a.2.2.1, a.2.2.2.1⟩).length ≤ _
      rw [usedL, List.length_append, h1, ← h2]
      show a.2.2.2.1.n + sumBy (fun x : Ob => x.locs.n) a.2.2.1.xs ≤ 0 + (0 + (sumBy (fun x : Ob => x.locs.n) a.2.2.1.xs + (a.2.2.2.1.n + 0)))
      omega)
theorem small_of {s : Sto} (h1 : s.objs.n ≤ 1048576) (h2 : ∀ x ∈ s.objs.xs, x.key.size ≤ 1048576 ∧ x.data.n ≤ 1048576 ∧ x.locs.n ≤ 1048576) (h3 : (usedL s).length ≤ 1048576) : s.small :=
  ⟨Nat.le_trans h1 (by decide), fun x hx => Nat.le_trans (h2 x hx).2.2 (by decide), Nat.le_trans h3 (by decide)⟩
end
end Go.Proofs.YtfongpdeflfioaaGreat.opm
/- Five parameters; flags that come in. -/
namespace Go.Proofs.YtfongpdeflfioaaGreat.opm
open Go.RowKit Go.ChangeShapes Go.WideShapes Go.ChangeAt
set_option linter.unusedVariables false
section
variable {H : Type} {enc : TypeId × Value → H} {P : Program} {w : World} {base : Nat} {spare : Nat → Bool} {held : Bool}
theorem trodAll_five {t t' t'' t3 t4 : TypeId} {args : Array Value} {ds : List (DataW H)} {ps : List MemPlace} (h : DataW.TrodAll enc P w base spare held [t, t', t'', t3, t4] args.toList ds ps) :
    ∃ v v' v'' v3 v4 d d' d'' d3 d4 p p' p'' p3 p4, args = #[v, v', v'', v3, v4] ∧ ds = [d, d', d'', d3, d4] ∧ ps = p ++ p' ++ p'' ++ p3 ++ p4 ∧ DataW.Trod enc P w base spare held t v d p ∧ DataW.Trod enc P w base spare held t' v' d' p' ∧ DataW.Trod enc P w base spare held t'' v'' d'' p'' ∧ DataW.Trod enc P w base spare held t3 v3 d3 p3 ∧ DataW.Trod enc P w base spare held t4 v4 d4 p4 := by
  obtain ⟨v, vs, d, ds', p, q, hargs, rfl, rfl, hd, hrest⟩ := trodAll_cons h
  obtain ⟨v', vs', d', ds'', p', q', rfl, rfl, rfl, hd', hrest'⟩ := trodAll_cons hrest
  obtain ⟨v'', vs'', d'', ds''', p'', q'', rfl, rfl, rfl, hd'', hrest''⟩ := trodAll_cons hrest'
  obtain ⟨v3, vs3, d3, ds3, p3, q3, rfl, rfl, rfl, hd3, hrest3⟩ := trodAll_cons hrest''
  obtain ⟨v4, vs4, d4, ds4, p4, q4, rfl, rfl, rfl, hd4, hrest4⟩ := trodAll_cons hrest3
  obtain ⟨rfl, rfl, rfl⟩ := trodAll_nil hrest4
  refine ⟨v, v', v'', v3, v4, d, d', d'', d3, d4, p, p', p'', p3, p4, ?_, rfl, by simp [List.append_assoc], hd, hd', hd'', hd3, hd4⟩
  rw [← Array.toList_inj, hargs]
end
section
variable {H : Type} {enc : TypeId × Value → H} {w : World}
theorem opens_bools : Opens enc Tryz.prog w 45 (fun s : Sl Bool => [s.val]) (fun s => Ks w s.A s.n s.c s.xs) (fun _ => 0) :=
  (opens_slice 1 (cells := boolc) Tryz.underlying45 (by kernel_rfl) (by omega) (fun _ => rfl) (opens_of (opb.opens_bool Tryz.underlying4))).map (fun s => s) (fun _ _ => rfl) (fun s h => ⟨h.len, Nat.le_trans h.le h.cap, h.rd⟩) (fun s h => Nat.zero_le _)
end
end Go.Proofs.YtfongpdeflfioaaGreat.opm
