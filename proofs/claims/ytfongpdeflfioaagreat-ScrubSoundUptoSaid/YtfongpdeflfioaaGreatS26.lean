/- The texts OpenB, OpenM, Crl, Scl in one file. -/
import Derived.Test.YtfongpdeflfioaaGreatS5
import Derived.Test.YtfongpdeflfioaaGreatS25
import Derived.Test.YtfongpdeflfioaaGreatS9
import Derived.Test.YtfongpdeflfioaaGreatS23
import Derived.Test.YtfongpdeflfioaaGreatS22
/- Arguments that come in, where the whole is of bulk at most 1048576: openers that are put together. -/
namespace Go.Proofs.YtfongpdeflfioaaGreat.opb
open Go.RowKit Go.ChangeShapes Go.WideShapes Go.Deep Go.Joins
set_option linter.unusedVariables false
structure In {α : Type} (w : World) (cells : α → List Value) (I : α → Prop) (s : Sl α) : Prop where
  len : s.n = s.xs.length
  le : s.n ≤ s.c
  cap : s.c ≤ maxLen
  small : s.n ≤ 1048576
  rd : Rd w 0 w.heap.size s.A (s.xs.flatMap cells)
  all : ∀ x ∈ s.xs, I x
section
variable {H : Type} {enc : TypeId × Value → H} {P : Program} {w : World} {t e : TypeId} {α β : Type}
def Opens (enc : TypeId × Value → H) (P : Program) (w : World) (t : TypeId) (cells : α → List Value) (I : α → Prop) : Prop :=
  ∀ (spare : Nat → Bool) (held : Bool) (fuel : Nat) (cs : List Value) (x : DataW H × List MemPlace), DataW.trod enc P w 0 spare held fuel t cs = some x → Rows.uptoBulk x.1 ≤ 1048576 → ∃ a, cs = cells a ∧ I a
theorem opens_int {k : IntKind} (ht : P.underlying t = some (.int k)) : Opens enc P w t (fun z : Int => [.int k z]) (fun z => k.min ≤ z ∧ z ≤ k.max) := fun _ _ _ _ _ h _ => by
  obtain ⟨n, rfl, _, hw⟩ := DataW.trod_int ht h
  simp only [Lit.wf, Bool.and_eq_true, decide_eq_true_eq] at hw
  exact ⟨n, rfl, hw⟩
theorem opens_bool (ht : P.underlying t = some .bool) : Opens enc P w t (fun z : Bool => [.bool z]) (fun _ => True) := fun _ _ _ _ _ h _ => by
  obtain ⟨n, rfl, _⟩ := DataW.trod_bool ht h
  exact ⟨n, rfl, trivial⟩
theorem opens_str (ht : P.underlying t = some .string) : Opens enc P w t (fun s : ByteArray => [.string s]) (fun s => s.size ≤ 1048576) := fun _ _ _ _ _ h hw => by
  obtain ⟨s, rfl, rfl, _⟩ := DataW.trod_string ht h
  refine ⟨s, rfl, ?_⟩
  rw [bulks.string_eq, Array.length_toList] at hw
  exact Nat.le_trans (Nat.le_succ _) hw
theorem Opens.map {cells : α → List Value} {I : α → Prop} {cells' : β → List Value} {I' : β → Prop} (h : Opens enc P w t cells I) (f : α → β) (hc : ∀ a, I a → cells a = cells' (f a)) (hi : ∀ a, I a → I' (f a)) : Opens enc P w t cells' I' := fun _ _ _ _ _ h1 h2 => by
  obtain ⟨a, rfl, ha⟩ := h _ _ _ _ _ h1 h2
  exact ⟨f a, hc a ha, hi a ha⟩
theorem opens_slice (size : Nat) {cells : α → List Value} {I : α → Prop} (ht : P.underlying t = some (.slice e)) (hC : P.cellsOf e = size) (h0 : 0 < size) (hs : ∀ a, (cells a).length = size) (el : Opens enc P w e cells I) :
    Opens enc P w t (fun s : Sl α => [s.val]) (In w cells I) := fun spare held fuel cs x h hw => by
  subst hC
  rcases open_slice ht h with ⟨rfl, rfl⟩ | ⟨a, len, cap, m, n, D, Pl, rfl, _, hl, hm, hmm, rfl, hi⟩
  · exact ⟨⟨none, 0, 0, []⟩, rfl, ⟨rfl, Nat.le_refl _, Nat.zero_le _, Nat.zero_le _, Rd.nil, fun _ h => by simp at h⟩⟩
  · have hb := bulks.slice_le ((List.range len).map D) ((List.range (m - len)).map fun j => D (len + j))
    have hb2 := bulks.slice_elems ((List.range len).map D) ((List.range (m - len)).map fun j => D (len + j))
    have hw' : Rows.uptoBulk (.slice ((List.range len).map D) ((List.range (m - len)).map fun j => D (len + j))) ≤ 1048576 := hw
    have hsm : len ≤ 1048576 := by
      simp only [List.length_map, List.length_range] at hb
      omega
    rcases Nat.eq_zero_or_pos len with hlen | hlen
    · subst hlen
      exact ⟨⟨some a, 0, cap, []⟩, rfl, ⟨rfl, hl, hm, Nat.zero_le _, Rd.nil, fun _ h => by simp at h⟩⟩
    · have hml : len ≤ m := by rw [hmm]; split <;> omega
      have one : ∀ i, i < len → ∃ y : α, I y ∧ ∀ j u, (cells y)[j]? = some u → w.cell? (a.add (i * P.cellsOf e + j)) = some u := by
        intro i hil
        obtain ⟨cs', hc, ht'⟩ := hi i (by omega)
        obtain ⟨y, rfl, hy⟩ := el _ _ _ _ _ ht' (by
          have h1 := bulks.part_le (d := D i) (l := (List.range len).map D) (List.mem_map_of_mem (List.mem_range.2 hil))
          show Rows.uptoBulk (D i) ≤ _
          omega)
        obtain ⟨_, _, hat⟩ := World.cells?_some hc
        refine ⟨y, hy, fun j u hu => ?_⟩
        have hj : j < P.cellsOf e := by
          have := (List.getElem?_eq_some_iff.1 hu).1
          rwa [hs] at this
        rw [← Go.Deep.add_add, hat j hj, hu]
      have key : ∀ i, ∃ y : α, i < len → I y ∧ ∀ j u, (cells y)[j]? = some u → w.cell? (a.add (i * P.cellsOf e + j)) = some u := by
        intro i
        by_cases hil : i < len
        · obtain ⟨y, h1, h2⟩ := one i hil
          exact ⟨y, fun _ => ⟨h1, h2⟩⟩
        · obtain ⟨y, _⟩ := one 0 hlen
          exact ⟨y, fun h => absurd h hil⟩
      obtain ⟨g, hg⟩ := Classical.axiomOfChoice key
      refine ⟨⟨some a, len, cap, (List.range len).map g⟩, rfl, ⟨by simp, hl, hm, hsm, plain_of_cells fun i u hu => ?_, fun x hx => ?_⟩⟩
      · have hil : i < len * P.cellsOf e := by
          have := (List.getElem?_eq_some_iff.1 hu).1
          rw [flat_length hs] at this
          simpa using this
        have hk : i / P.cellsOf e < len := Nat.div_lt_of_lt_mul (by rw [Nat.mul_comm]; exact hil)
        have hij : i / P.cellsOf e * P.cellsOf e + i % P.cellsOf e = i := Nat.div_add_mod' i (P.cellsOf e)
        rw [← hij, flat_get hs _ _ _ (Nat.mod_lt _ h0) (by simpa using hk)] at hu
        simp only [List.getElem_map, List.getElem_range] at hu
        rw [← hij]
        exact (hg _ hk).2 _ u hu
      · simp only [List.mem_map, List.mem_range] at hx
        obtain ⟨i, hil, rfl⟩ := hx
        exact (hg i hil).1
def OpensF (enc : TypeId × Value → H) (P : Program) (w : World) (L : Nat) (fs : List Field) (off : Nat) (cells : α → List Value) (I : α → Prop) : Prop :=
  ∀ (spare : Nat → Bool) (held : Bool) (fuel : Nat) (cs : List Value) (ys : List (DataW H × List MemPlace)), cs.length = L → ys.length = fs.length →
    (∀ (i : Nat) (f : Field), fs[i]? = some f → DataW.trod enc P w 0 spare held fuel f.type ((cs.drop f.offset).take (P.cellsOf f.type)) = ys[i]?) →
    Rows.uptoBulkAll (ys.map (·.1)) ≤ 1048576 → ∃ a, cs.drop off = cells a ∧ I a
theorem OpensF.nil {L : Nat} : OpensF enc P w L [] L (fun _ : Unit => []) (fun _ => True) := fun _ _ _ cs _ hl _ _ _ => ⟨(), List.drop_eq_nil_of_le (by omega), trivial⟩
theorem OpensF.cons (size : Nat) {L off : Nat} {f : Field} {fs : List Field} {cells : α → List Value} {I : α → Prop} {cells' : β → List Value} {I' : β → Prop} (h : Opens enc P w f.type cells I) (ho : f.offset = off) (hc : P.cellsOf f.type = size)
    (r : OpensF enc P w L fs (off + size) cells' I') : OpensF enc P w L (f :: fs) off (fun x : α × β => cells x.1 ++ cells' x.2) (fun x => I x.1 ∧ I' x.2) := fun spare held fuel cs ys hl hy hf hw => by
  subst ho hc
  cases ys with
  | nil => simp at hy
  | cons y ys =>
    simp only [List.map_cons, Rows.uptoBulkAll] at hw
    obtain ⟨a, ha, hi⟩ := h _ _ _ _ y (hf 0 f rfl) (by omega)
    obtain ⟨b, hb, hj⟩ := r spare held fuel cs ys hl (by simpa using hy) (fun i g hg => hf (i + 1) g hg) (by omega)
    refine ⟨(a, b), ?_, hi, hj⟩
    show _ = cells a ++ cells' b
    rw [← ha, ← hb, ← List.drop_drop, List.take_append_drop]
theorem opens_struct {L : Nat} {fs : Array Field} {cells : α → List Value} {I : α → Prop} (hu : P.underlying t = some (.struct fs)) (hL : P.cellsOf t = L) (hF : OpensF enc P w L fs.toList 0 cells I) : Opens enc P w t cells I := fun spare held fuel cs x h hw => by
  obtain ⟨ys, n, _, rfl, hlen, hyl, hf⟩ := DataW.trod_struct hu h
  obtain ⟨a, ha, hi⟩ := hF spare held n cs ys (hlen.trans hL) (by simpa using hyl) (fun i f hif => hf i f (by simpa using hif)) (by
    have h1 : Rows.uptoBulk (DataW.agg (ys.map (·.1))) ≤ 1048576 := hw
    simp only [Rows.uptoBulk] at h1
    omega)
  exact ⟨a, by simpa using ha, hi⟩
theorem Opens.param_struct {fs : Array Field} {cells : α → List Value} {I : α → Prop} (h : Opens enc P w t cells I) (hu : P.underlying t = some (.struct fs)) {r : Reach} {b0 : Nat} {spare : Nat → Bool} {held : Bool} {v : Value} {d : DataW H} {p : List MemPlace}
    (hv : Value.okWide P w r b0 t v) (ht : DataW.Trod enc P w 0 spare held t v d p) (hw : Rows.uptoBulk d ≤ 1048576) : ∃ a, v = .agg (cells a).toArray ∧ I a := by
  obtain ⟨cs, rfl, _⟩ := okWide_struct hu hv
  obtain ⟨fuel, hf⟩ := ht
  obtain ⟨a, ha, hi⟩ := h _ _ _ _ _ hf hw
  exact ⟨a, by rw [← ha]; rfl, hi⟩
theorem Opens.param_slice {I : Sl α → Prop} (h : Opens enc P w t (fun s : Sl α => [s.val]) I) (ht : P.underlying t = some (.slice e)) {r : Reach} {b0 : Nat} {spare : Nat → Bool} {held : Bool} {v : Value} {d : DataW H} {p : List MemPlace}
    (hv : Value.okWide P w r b0 t v) (htr : DataW.Trod enc P w 0 spare held t v d p) (hw : Rows.uptoBulk d ≤ 1048576) : ∃ s : Sl α, v = s.val ∧ I s := by
  obtain ⟨A, n, c, rfl⟩ := okWide_slice ht hv
  obtain ⟨fuel, hf⟩ := htr
  obtain ⟨a, ha, hi⟩ := h _ _ _ _ _ hf hw
  exact ⟨a, by simpa [Value.cells] using ha, hi⟩
theorem param_string (ht : P.underlying t = some .string) {r : Reach} {b0 : Nat} {spare : Nat → Bool} {held : Bool} {v : Value} {d : DataW H} {p : List MemPlace}
    (hv : Value.okWide P w r b0 t v) (htr : DataW.Trod enc P w 0 spare held t v d p) (hw : Rows.uptoBulk d ≤ 1048576) : ∃ s : ByteArray, v = .string s ∧ s.size ≤ 1048576 := by
  obtain ⟨s, rfl, rfl, rfl, hmax⟩ := Go.ChangeMaps.open_string ht hv htr
  rw [bulks.string_eq, Array.length_toList] at hw
  exact ⟨s, rfl, Nat.le_trans (Nat.le_succ _) hw⟩
theorem arg_le {ds : List (DataW H)} {d : DataW H} (h : Rows.uptoBulkAll ds ≤ 1048576) (hd : d ∈ ds) : Rows.uptoBulk d ≤ 1048576 := Nat.le_trans (bulks.part_le hd) h
end
end Go.Proofs.YtfongpdeflfioaaGreat.opb
/- Openers that tell a measure too: what came in is of so much bulk at most. Objects, a device, a store. -/
namespace Go.Proofs.YtfongpdeflfioaaGreat.opm
open Go.RowKit Go.ChangeShapes Go.WideShapes Go.Deep Go.Joins
open Go.Proofs.YtfongpdeflfioaaGreat.opb (In)
set_option linter.unusedVariables false
def sumBy {α : Type} (μ : α → Nat) : List α → Nat
  | [] => 0
  | x :: r => μ x + sumBy μ r
theorem sumBy_mem {α : Type} (μ : α → Nat) {x : α} : ∀ {l : List α}, x ∈ l → μ x ≤ sumBy μ l
  | y :: r, h => by
    rcases List.mem_cons.1 h with rfl | h
    · exact Nat.le_add_right _ _
    · exact Nat.le_trans (sumBy_mem μ h) (Nat.le_add_left _ _)
theorem sumBy_one {α : Type} : ∀ l : List α, sumBy (fun _ => 1) l = l.length
  | [] => rfl
  | x :: r => by rw [sumBy, sumBy_one r, List.length_cons]; omega
theorem sumBy_bulk {α H : Type} (μ : α → Nat) (g : Nat → α) (D : Nat → DataW H) : ∀ l : List Nat, (∀ i ∈ l, μ (g i) ≤ Rows.uptoBulk (D i)) → sumBy μ (l.map g) ≤ Rows.uptoBulkAll (l.map D)
  | [], _ => Nat.zero_le _
  | i :: r, h => by
    have h1 := h i (List.mem_cons_self ..)
    have h2 := sumBy_bulk μ g D r (fun j hj => h j (List.mem_cons_of_mem _ hj))
    simp only [List.map_cons, sumBy, Rows.uptoBulkAll]
    omega
section
variable {H : Type} {enc : TypeId × Value → H} {P : Program} {w : World} {t e : TypeId} {α β : Type}
def Opens (enc : TypeId × Value → H) (P : Program) (w : World) (t : TypeId) (cells : α → List Value) (I : α → Prop) (μ : α → Nat) : Prop :=
  ∀ (spare : Nat → Bool) (held : Bool) (fuel : Nat) (cs : List Value) (x : DataW H × List MemPlace), DataW.trod enc P w 0 spare held fuel t cs = some x → Rows.uptoBulk x.1 ≤ 1048576 → ∃ a, cs = cells a ∧ I a ∧ μ a ≤ Rows.uptoBulk x.1
theorem opens_of {cells : α → List Value} {I : α → Prop} (h : opb.Opens enc P w t cells I) : Opens enc P w t cells I (fun _ => 1) := fun _ _ _ _ _ h1 h2 => by
  obtain ⟨a, rfl, hi⟩ := h _ _ _ _ _ h1 h2
  exact ⟨a, rfl, hi, bulks.one_le _⟩
theorem Opens.map {cells : α → List Value} {I : α → Prop} {μ : α → Nat} {cells' : β → List Value} {I' : β → Prop} {μ' : β → Nat} (h : Opens enc P w t cells I μ) (f : α → β) (hc : ∀ a, I a → cells a = cells' (f a)) (hi : ∀ a, I a → I' (f a)) (hm : ∀ a, I a → μ' (f a) ≤ μ a) : Opens enc P w t cells' I' μ' := fun _ _ _ _ _ h1 h2 => by
  obtain ⟨a, rfl, ha, hn⟩ := h _ _ _ _ _ h1 h2
  exact ⟨f a, hc a ha, hi a ha, Nat.le_trans (hm a ha) hn⟩
theorem opens_slice (size : Nat) {cells : α → List Value} {I : α → Prop} {μ : α → Nat} (ht : P.underlying t = some (.slice e)) (hC : P.cellsOf e = size) (h0 : 0 < size) (hs : ∀ a, (cells a).length = size) (el : Opens enc P w e cells I μ) :
    Opens enc P w t (fun s : Sl α => [s.val]) (In w cells I) (fun s => sumBy μ s.xs) := fun spare held fuel cs x h hw => by
  subst hC
  rcases open_slice ht h with ⟨rfl, rfl⟩ | ⟨a, len, cap, m, n, D, Pl, rfl, _, hl, hm, hmm, rfl, hi⟩
  · exact ⟨⟨none, 0, 0, []⟩, rfl, ⟨rfl, Nat.le_refl _, Nat.zero_le _, Nat.zero_le _, Rd.nil, fun _ h => by simp at h⟩, Nat.zero_le _⟩
  · have hb := bulks.slice_le ((List.range len).map D) ((List.range (m - len)).map fun j => D (len + j))
    have hb2 := bulks.slice_elems ((List.range len).map D) ((List.range (m - len)).map fun j => D (len + j))
    have hw' : Rows.uptoBulk (.slice ((List.range len).map D) ((List.range (m - len)).map fun j => D (len + j))) ≤ 1048576 := hw
    have hsm : len ≤ 1048576 := by
      simp only [List.length_map, List.length_range] at hb
      omega
    rcases Nat.eq_zero_or_pos len with hlen | hlen
    · subst hlen
      exact ⟨⟨some a, 0, cap, []⟩, rfl, ⟨rfl, hl, hm, Nat.zero_le _, Rd.nil, fun _ h => by simp at h⟩, Nat.zero_le _⟩
    · have hml : len ≤ m := by rw [hmm]; split <;> omega
      have one : ∀ i, i < len → ∃ y : α, I y ∧ (∀ j u, (cells y)[j]? = some u → w.cell? (a.add (i * P.cellsOf e + j)) = some u) ∧ μ y ≤ Rows.uptoBulk (D i) := by
        intro i hil
        obtain ⟨cs', hc, ht'⟩ := hi i (by omega)
        obtain ⟨y, rfl, hy, hn⟩ := el _ _ _ _ _ ht' (by
          have h1 := bulks.part_le (d := D i) (l := (List.range len).map D) (List.mem_map_of_mem (List.mem_range.2 hil))
          show Rows.uptoBulk (D i) ≤ _
          omega)
        obtain ⟨_, _, hat⟩ := World.cells?_some hc
        refine ⟨y, hy, fun j u hu => ?_, hn⟩
        have hj : j < P.cellsOf e := by
          have := (List.getElem?_eq_some_iff.1 hu).1
          rwa [hs] at this
        rw [← Go.Deep.add_add, hat j hj, hu]
      have key : ∀ i, ∃ y : α, i < len → I y ∧ (∀ j u, (cells y)[j]? = some u → w.cell? (a.add (i * P.cellsOf e + j)) = some u) ∧ μ y ≤ Rows.uptoBulk (D i) := by
        intro i
        by_cases hil : i < len
        · obtain ⟨y, h1⟩ := one i hil
          exact ⟨y, fun _ => h1⟩
        · obtain ⟨y, _⟩ := one 0 hlen
          exact ⟨y, fun h => absurd h hil⟩
      obtain ⟨g, hg⟩ := Classical.axiomOfChoice key
      refine ⟨⟨some a, len, cap, (List.range len).map g⟩, rfl, ⟨by simp, hl, hm, hsm, plain_of_cells fun i u hu => ?_, fun x hx => ?_⟩, ?_⟩
      · have hil : i < len * P.cellsOf e := by
          have := (List.getElem?_eq_some_iff.1 hu).1
          rw [flat_length hs] at this
          simpa using this
        have hk : i / P.cellsOf e < len := Nat.div_lt_of_lt_mul (by rw [Nat.mul_comm]; exact hil)
        have hij : i / P.cellsOf e * P.cellsOf e + i % P.cellsOf e = i := Nat.div_add_mod' i (P.cellsOf e)
        rw [← hij, flat_get hs _ _ _ (Nat.mod_lt _ h0) (by simpa using hk)] at hu
        simp only [List.getElem_map, List.getElem_range] at hu
        rw [← hij]
        exact (hg _ hk).2.1 _ u hu
      · simp only [List.mem_map, List.mem_range] at hx
        obtain ⟨i, hil, rfl⟩ := hx
        exact (hg i hil).1
      · have h3 := sumBy_bulk μ g D (List.range len) (fun i hil => (hg i (List.mem_range.1 hil)).2.2)
        show sumBy μ ((List.range len).map g) ≤ Rows.uptoBulk (.slice ((List.range len).map D) ((List.range (m - len)).map fun j => D (len + j)))
        omega
def OpensF (enc : TypeId × Value → H) (P : Program) (w : World) (L : Nat) (fs : List Field) (off : Nat) (cells : α → List Value) (I : α → Prop) (μ : α → Nat) : Prop :=
  ∀ (spare : Nat → Bool) (held : Bool) (fuel : Nat) (cs : List Value) (ys : List (DataW H × List MemPlace)), cs.length = L → ys.length = fs.length →
    (∀ (i : Nat) (f : Field), fs[i]? = some f → DataW.trod enc P w 0 spare held fuel f.type ((cs.drop f.offset).take (P.cellsOf f.type)) = ys[i]?) →
    Rows.uptoBulkAll (ys.map (·.1)) ≤ 1048576 → ∃ a, cs.drop off = cells a ∧ I a ∧ μ a ≤ Rows.uptoBulkAll (ys.map (·.1))
theorem OpensF.nil {L : Nat} : OpensF enc P w L [] L (fun _ : Unit => []) (fun _ => True) (fun _ => 0) := fun _ _ _ cs _ hl _ _ _ => ⟨(), List.drop_eq_nil_of_le (by omega), trivial, Nat.zero_le _⟩
theorem OpensF.cons (size : Nat) {L off : Nat} {f : Field} {fs : List Field} {cells : α → List Value} {I : α → Prop} {μ : α → Nat} {cells' : β → List Value} {I' : β → Prop} {μ' : β → Nat} (h : Opens enc P w f.type cells I μ) (ho : f.offset = off) (hc : P.cellsOf f.type = size)
    (r : OpensF enc P w L fs (off + size) cells' I' μ') : OpensF enc P w L (f :: fs) off (fun x : α × β => cells x.1 ++ cells' x.2) (fun x => I x.1 ∧ I' x.2) (fun x => μ x.1 + μ' x.2) := fun spare held fuel cs ys hl hy hf hw => by
  subst ho hc
  cases ys with
  | nil => simp at hy
  | cons y ys =>
    simp only [List.map_cons, Rows.uptoBulkAll] at hw
    obtain ⟨a, ha, hi, hm⟩ := h _ _ _ _ y (hf 0 f rfl) (by omega)
    obtain ⟨b, hb, hj, hn⟩ := r spare held fuel cs ys hl (by simpa using hy) (fun i g hg => hf (i + 1) g hg) (by omega)
    refine ⟨(a, b), ?_, ⟨hi, hj⟩, ?_⟩
    · show _ = cells a ++ cells' b
      rw [← ha, ← hb, ← List.drop_drop, List.take_append_drop]
    · simp only [List.map_cons, Rows.uptoBulkAll]
      omega
theorem opens_struct {L : Nat} {fs : Array Field} {cells : α → List Value} {I : α → Prop} {μ : α → Nat} (hu : P.underlying t = some (.struct fs)) (hL : P.cellsOf t = L) (hF : OpensF enc P w L fs.toList 0 cells I μ) : Opens enc P w t cells I μ := fun spare held fuel cs x h hw => by
  obtain ⟨ys, n, _, rfl, hlen, hyl, hf⟩ := DataW.trod_struct hu h
  obtain ⟨a, ha, hi, hm⟩ := hF spare held n cs ys (hlen.trans hL) (by simpa using hyl) (fun i f hif => hf i f (by simpa using hif)) (by
    have h1 : Rows.uptoBulk (DataW.agg (ys.map (·.1))) ≤ 1048576 := hw
    simp only [Rows.uptoBulk] at h1
    omega)
  refine ⟨a, by simpa using ha, hi, ?_⟩
  show _ ≤ Rows.uptoBulk (DataW.agg (ys.map (·.1)))
  simp only [Rows.uptoBulk]
  omega
theorem Opens.param_struct {fs : Array Field} {cells : α → List Value} {I : α → Prop} {μ : α → Nat} (h : Opens enc P w t cells I μ) (hu : P.underlying t = some (.struct fs)) {r : Reach} {b0 : Nat} {spare : Nat → Bool} {held : Bool} {v : Value} {d : DataW H} {p : List MemPlace}
    (hv : Value.okWide P w r b0 t v) (ht : DataW.Trod enc P w 0 spare held t v d p) (hw : Rows.uptoBulk d ≤ 1048576) : ∃ a, v = .agg (cells a).toArray ∧ I a ∧ μ a ≤ 1048576 := by
  obtain ⟨cs, rfl, _⟩ := okWide_struct hu hv
  obtain ⟨fuel, hf⟩ := ht
  obtain ⟨a, ha, hi, hm⟩ := h _ _ _ _ _ hf hw
  exact ⟨a, by rw [← ha]; rfl, hi, Nat.le_trans hm hw⟩
theorem Opens.param_slice {I : Sl α → Prop} {μ : Sl α → Nat} (h : Opens enc P w t (fun s : Sl α => [s.val]) I μ) (ht : P.underlying t = some (.slice e)) {r : Reach} {b0 : Nat} {spare : Nat → Bool} {held : Bool} {v : Value} {d : DataW H} {p : List MemPlace}
    (hv : Value.okWide P w r b0 t v) (htr : DataW.Trod enc P w 0 spare held t v d p) (hw : Rows.uptoBulk d ≤ 1048576) : ∃ s : Sl α, v = s.val ∧ I s ∧ μ s ≤ 1048576 := by
  obtain ⟨A, n, c, rfl⟩ := okWide_slice ht hv
  obtain ⟨fuel, hf⟩ := htr
  obtain ⟨a, ha, hi, hm⟩ := h _ _ _ _ _ hf hw
  exact ⟨a, by simpa [Value.cells] using ha, hi, Nat.le_trans hm hw⟩
end
section
variable {H : Type} {enc : TypeId × Value → H} {w : World}
theorem In.sl {α : Type} {cells : α → List Value} {I : α → Prop} {s : Sl α} (h : In w cells I s) : Sl.At w 0 w.heap.size cells I s := ⟨h.len, h.le, h.cap, h.rd, h.all⟩
theorem opens_oct : Opens enc Tryz.prog w 33 (fun s : Oct => [s.val]) (fun s => Oct.At w 0 w.heap.size s ∧ s.n ≤ 1048576) (fun s => s.n) :=
  (opens_slice 1 Tryz.underlying33 (by kernel_rfl) (by omega) (fun _ => rfl) ((opens_of (opb.opens_int Tryz.underlying5)).map (fun z => UInt8.ofNat z.toNat) (fun z h => by
    have h1 : (0 : Int) ≤ z ∧ z ≤ 255 := h
    show [Value.int .u8 z] = [.int .u8 ((UInt8.ofNat z.toNat).toNat : Int)]
    rw [UInt8.toNat_ofNat']
    congr 2
    omega) (I' := fun _ => True) (fun _ _ => trivial) (μ' := fun _ => 1) (fun _ _ => Nat.le_refl _))).map id (fun _ _ => rfl) (fun s h => ⟨⟨h.len, h.le, h.cap, h.rd, fun _ _ => trivial⟩, h.small⟩) (fun s h => by rw [sumBy_one, ← h.len]; exact Nat.le_refl _)
theorem opens_loc : Opens enc Tryz.prog w 29 (fun s : Loc => [s.val]) (fun s => Loc.At w 0 w.heap.size s ∧ s.n ≤ 1048576) (fun s => s.n) :=
  (opens_slice 1 Tryz.underlying29 (by kernel_rfl) (by omega) (fun _ => rfl) ((opens_of (opb.opens_int Tryz.underlying3)).map (cells' := intc) id (fun z h => rfl) (I' := fun y => (Lit.int .i64 y).wf = true) (fun y h => by
    simp only [Lit.wf, Bool.and_eq_true, decide_eq_true_eq]; exact h) (μ' := fun _ => 1) (fun _ _ => Nat.le_refl _))).map id (fun _ _ => rfl) (fun s h => ⟨⟨h.len, h.le, h.cap, h.rd, h.all⟩, h.small⟩) (fun s h => by rw [sumBy_one, ← h.len]; exact Nat.le_refl _)
theorem opens_secs : Opens enc Tryz.prog w 22 (fun s : Sl Oct => [s.val]) (fun s => Sl.At w 0 w.heap.size octv (Oct.At w 0 w.heap.size) s) (fun _ => 0) :=
  (opens_slice 1 Tryz.underlying22 (by kernel_rfl) (by omega) (fun _ => rfl) opens_oct).map id (fun _ _ => rfl) (fun s h => ⟨h.len, h.le, h.cap, h.rd, fun x hx => (h.all x hx).1⟩) (fun s h => Nat.zero_le _)
theorem opens_wrt : Opens enc Tryz.prog w 114 Wrt.cells (Wrt.At w 0 w.heap.size) (fun _ => 0) :=
  (opens_struct Tryz.underlying114 (by kernel_rfl) (OpensF.cons 1 (opens_of (opb.opens_int Tryz.underlying3)) rfl (by kernel_rfl) (OpensF.cons 1 opens_oct rfl (by kernel_rfl) OpensF.nil))).map
    (fun x => ⟨x.1, x.2.1⟩) (fun _ _ => rfl) (fun _ h => ⟨h.1.1, h.1.2, h.2.1.1⟩) (fun _ _ => Nat.zero_le _)
theorem opens_wrts : Opens enc Tryz.prog w 23 (fun s : Sl Wrt => [s.val]) (fun s => Sl.At w 0 w.heap.size Wrt.cells (Wrt.At w 0 w.heap.size) s ∧ s.n ≤ 1048576) (fun _ => 0) :=
  (opens_slice 2 Tryz.underlying23 (by kernel_rfl) (by omega) (fun _ => rfl) opens_wrt).map id (fun _ _ => rfl) (fun s h => ⟨⟨h.len, h.le, h.cap, h.rd, h.all⟩, h.small⟩) (fun s h => Nat.zero_le _)
theorem opens_dev : Opens enc Tryz.prog w 25 Dev.cells (fun d => Dev.At w 0 w.heap.size d ∧ d.waits.n ≤ 1048576) (fun _ => 0) :=
  (opens_struct Tryz.underlying25 (by kernel_rfl) (OpensF.cons 1 opens_secs rfl (by kernel_rfl) (OpensF.cons 1 opens_wrts rfl (by kernel_rfl) OpensF.nil))).map
    (fun x => ⟨x.1, x.2.1⟩) (fun _ _ => rfl) (fun _ h => ⟨⟨h.1, h.2.1.1⟩, h.2.1.2⟩) (fun _ _ => Nat.zero_le _)
theorem opens_ub : Opens enc Tryz.prog w 27 Ub.cells Ub.wf (fun _ => 0) :=
  (opens_struct Tryz.underlying27 (by kernel_rfl) (OpensF.cons 1 (opens_of (opb.opens_int Tryz.underlying3)) rfl (by kernel_rfl) (OpensF.cons 1 (opens_of (opb.opens_int Tryz.underlying3)) rfl (by kernel_rfl) (OpensF.cons 1 (opens_of (opb.opens_int Tryz.underlying3)) rfl (by kernel_rfl) OpensF.nil)))).map
    (fun x => ⟨x.1, x.2.1, x.2.2.1⟩) (fun _ _ => rfl) (fun _ h => ⟨h.1.1, h.1.2, h.2.1.1, h.2.1.2, h.2.2.1.1, h.2.2.1.2⟩) (fun _ _ => Nat.zero_le _)
theorem opens_ob : Opens enc Tryz.prog w 35 Ob.cells (fun x => Ob.At w 0 w.heap.size x ∧ x.key.size ≤ 1048576 ∧ x.data.n ≤ 1048576 ∧ x.locs.n ≤ 1048576) (fun x => x.locs.n) :=
  (opens_struct Tryz.underlying35 (by kernel_rfl) (OpensF.cons 1 (opens_of (opb.opens_str Tryz.underlying9)) rfl (by kernel_rfl) (OpensF.cons 1 opens_oct rfl (by kernel_rfl) (OpensF.cons 1 opens_loc rfl (by kernel_rfl) OpensF.nil)))).map
    (fun x => ⟨x.1, x.2.1, x.2.2.1⟩) (fun _ _ => rfl) (fun _ h => ⟨⟨Nat.le_trans h.1 (by decide), h.2.1.1, h.2.2.1.1⟩, h.1, h.2.1.2, h.2.2.1.2⟩) (fun _ _ => by simp only; omega)
theorem opens_objs : Opens enc Tryz.prog w 28 (fun s : Sl Ob => [s.val]) (In w Ob.cells (fun x => Ob.At w 0 w.heap.size x ∧ x.key.size ≤ 1048576 ∧ x.data.n ≤ 1048576 ∧ x.locs.n ≤ 1048576)) (fun s => sumBy (fun x : Ob => x.locs.n) s.xs) :=
  opens_slice 3 Tryz.underlying28 (by kernel_rfl) (by omega) (fun _ => rfl) opens_ob
theorem locs_sum {w : World} {lo hi : Nat} : ∀ {l : List Ob}, (∀ x ∈ l, Ob.At w lo hi x) → (locsL l).length = sumBy (fun x : Ob => x.locs.n) l
  | [], _ => rfl
  | x :: r, h => by
    have h1 := locs_sum (l := r) fun y hy => h y (List.mem_cons_of_mem _ hy)
    have h2 := (h x (List.mem_cons_self ..)).locs.len
    rw [locsL] at h1 ⊢
    rw [List.flatMap_cons, List.length_append, h1, sumBy, h2]
theorem opens_sto : Opens enc Tryz.prog w 31 Sto.cells (fun s => Sto.At w 0 w.heap.size s ∧ s.objs.n ≤ 1048576 ∧ (∀ x ∈ s.objs.xs, x.key.size ≤ 1048576 ∧ x.data.n ≤ 1048576 ∧ x.locs.n ≤ 1048576) ∧ s.dev.waits.n ≤ 1048576) (fun s => (usedL s).length) :=
  (opens_struct Tryz.underlying31 (by kernel_rfl) (OpensF.cons 2 opens_dev rfl (by kernel_rfl) (OpensF.cons 3 opens_ub rfl (by kernel_rfl) (OpensF.cons 1 opens_objs rfl (by kernel_rfl) (OpensF.cons 1 opens_loc rfl (by kernel_rfl) OpensF.nil))))).map
    (fun x => ⟨x.1, x.2.1, x.2.2.1, x.2.2.2.1⟩) (fun _ _ => rfl) (fun _ h => ⟨⟨h.1.1, h.2.1, ⟨h.2.2.1.len, h.2.2.1.le, h.2.2.1.cap, h.2.2.1.rd, fun x hx => (h.2.2.1.all x hx).1⟩, h.2.2.2.1.1⟩, h.2.2.1.small, fun x hx => (h.2.2.1.all x hx).2, h.1.2⟩)
    (fun a h => by
      have h1 := locs_sum (w := w) (lo := 0) (hi := w.heap.size) (l := a.2.2.1.xs) fun x hx => (h.2.2.1.all x hx).1
      have h2 := h.2.2.2.1.1.len
      show (usedL ⟨a.1, a.2.1, a.2.2.1, a.2.2.2.1⟩).length ≤ _
      rw [usedL, List.length_append, h1, ← h2]
      show a.2.2.2.1.n + sumBy (fun x : Ob => x.locs.n) a.2.2.1.xs ≤ 0 + (0 + (sumBy (fun x : Ob => x.locs.n) a.2.2.1.xs + (a.2.2.2.1.n + 0)))
      omega)
theorem small_of {s : Sto} (h1 : s.objs.n ≤ 1048576) (h2 : ∀ x ∈ s.objs.xs, x.key.size ≤ 1048576 ∧ x.data.n ≤ 1048576 ∧ x.locs.n ≤ 1048576) (h3 : (usedL s).length ≤ 1048576) : s.small :=
  ⟨Nat.le_trans h1 (by decide), fun x hx => Nat.le_trans (h2 x hx).2.2 (by decide), Nat.le_trans h3 (by decide)⟩
end
end Go.Proofs.YtfongpdeflfioaaGreat.opm
/- A commit that is cut off: the device holds the store ahead of it, or the one behind it. -/
namespace Go.Proofs.YtfongpdeflfioaaGreat
open Go.RowKit Go.Maps Go.Sort Go.Shelf
set_option linter.unusedVariables false
set_option linter.unusedSimpArgs false
theorem chk_of {d : Dev} {w : World} {lo hi : Nat} (h : Dev.At w lo hi d) (h2 : 2 ≤ d.secs.n) (h8 : d.secs.n ≤ 8192) (hs : ∀ b ∈ d.secv, b.length = 64) (hw : ∀ x ∈ d.wv, 0 ≤ x.1 ∧ x.1 < (d.secs.n : Int) ∧ x.2.length = 64) : chkE d = 0 := by
  unfold chkE
  rw [if_neg, if_neg]
  · intro q
    obtain ⟨x, hx, hb⟩ := List.any_eq_true.1 q
    have h1 := hw x.abs (List.mem_map_of_mem hx)
    have h3 := (h.waits.all x hx).data.len
    have h4 : 0 ≤ x.pos ∧ x.pos < (d.secs.n : Int) ∧ x.data.xs.length = 64 := h1
    simp only [badW, oddO, Bool.or_eq_true, decide_eq_true_eq, bne_iff_ne] at hb
    omega
  · rintro (q | q | q)
    · omega
    · omega
    · obtain ⟨x, hx, hb⟩ := List.any_eq_true.1 q
      have h1 := hs x.xs (List.mem_map_of_mem (f := fun o : Oct => o.xs) hx)
      have h3 := (h.secs.all x hx).len
      simp only [oddO, bne_iff_ne] at hb
      omega
theorem crash_law {s nx : Sto} {l : List Ob} {acts : List Ac} {W : List (Int × List UInt8)} (hL : CmLaw s nx l acts W) (ha : s.abs.holds) (cut : Nat) (hc : cut ≤ acts.length) (kp : Nat → Bool) (T : List (List UInt8)) (V : List (Int × List UInt8)) (h : (T, V) = doV (acts.take cut) (s.abs.S, [])) :
    (∀ x ∈ V, 0 ≤ x.1 ∧ x.1 < (s.abs.S.length : Int) ∧ x.2.length = 64) ∧ (∀ b ∈ T, b.length = 64) ∧ T.length = s.abs.S.length ∧
    ((cut < acts.length ∧ (⟨setV kp V T V.length, s.abs.u, s.abs.O, s.abs.X⟩ : Abs).holds) ∨ (acts.length ≤ cut + 1 ∧ setV kp V T V.length = nx.abs.S)) := by
  have hk := ha.ok
  have hlen : acts.length = W.length + 3 := by
    have := congrArg List.length hL.acts
    simpa using this
  have hn2 := hk.n2
  have hsl : nx.ub.txg % 2 = 0 ∨ nx.ub.txg % 2 = 1 := by omega
  rw [doV_abs, List.map_take, hL.acts] at h
  have hWf : ∀ k, ∀ x ∈ W.take k, ∀ y ∈ s.abs.used, x.1.toNat ≠ y.toNat := fun k x hx y hy e => by
    have h1 := hL.free x (List.mem_of_mem_take hx)
    have h2 := hk.lo y hy
    have h3 : x.1 = y := by omega
    exact h1.2.2 (h3 ▸ hy)
  have hW2 : ∀ k, ∀ x ∈ W.take k, ∀ p : Nat, p < 2 → x.1.toNat ≠ p := fun k x hx p hp => by
    have h1 := hL.free x (List.mem_of_mem_take hx)
    omega
  have hold : ∀ k kp j, (⟨setV kp (W.take k) s.abs.S j, s.abs.u, s.abs.O, s.abs.X⟩ : Abs).holds := fun k kp j =>
    holds_agree ha (setV_len _ _ _ _) (setV_64 _ hk.s64 (fun x hx => hL.w64 x (List.mem_of_mem_take hx)) _) (fun p hp => setV_ne _ (fun x hx => hW2 k x hx p hp) _) (fun y hy => setV_ne _ (fun x hx => hWf k x hx y hy) _)
  obtain ⟨S1, hS1⟩ : ∃ S1, S1 = setV (fun _ => true) W s.abs.S W.length := ⟨_, rfl⟩
  have hS1h : (⟨S1, s.abs.u, s.abs.O, s.abs.X⟩ : Abs).holds := by
    have := hold W.length (fun _ => true) W.length
    rw [List.take_length] at this
    rw [hS1]; exact this
  have hS1l : S1.length = s.abs.S.length := by rw [hS1, setV_len]
  have hS164 : ∀ b ∈ S1, b.length = 64 := by rw [hS1]; exact setV_64 _ hk.s64 hL.w64 _
  have hfw : ∀ k, ((W.take k).map fun x => ((false, x.1, x.2) : Bool × Int × List UInt8)).foldl stepS (s.abs.S, []) = (s.abs.S, W.take k) := fun k => by
    rw [fold_writes _ _ _ (fun x hx => by
      obtain ⟨y, _, rfl⟩ := List.mem_map.1 hx
      rfl), List.nil_append, List.map_map]
    congr 1
    conv => rhs; rw [← List.map_id (W.take k)]
    rfl
  rcases Nat.lt_or_ge W.length cut with hm | hm
  · have e : (W.map (fun x => ((false, x.1, x.2) : Bool × Int × List UInt8)) ++ [(true, 0, []), (false, nx.ub.txg % 2, ueB nx.ub), (true, 0, [])]).take cut = W.map (fun x => (false, x.1, x.2)) ++ ([(true, 0, []), (false, nx.ub.txg % 2, ueB nx.ub), (true, 0, [])] : List (Bool × Int × List UInt8)).take (cut - W.length) := by
      rw [List.take_append, List.length_map, List.take_of_length_le (by rw [List.length_map]; omega)]
    have hf := hfw W.length
    rw [List.take_length] at hf
    rw [e, List.foldl_append, hf] at h
    have hcs : cut - W.length = 1 ∨ cut - W.length = 2 ∨ cut - W.length = 3 := by omega
    rcases hcs with hq | hq | hq
    · rw [hq] at h
      have h1 : T = S1 := by rw [hS1]; exact congrArg Prod.fst h
      have h2 : V = [] := congrArg Prod.snd h
      subst h1
      subst h2
      exact ⟨fun x hx => by simp at hx, hS164, hS1l, .inl ⟨by omega, hS1h⟩⟩
    · rw [hq] at h
      have h1 : T = S1 := by rw [hS1]; exact congrArg Prod.fst h
      have h2 : V = [(nx.ub.txg % 2, ueB nx.ub)] := congrArg Prod.snd h
      subst h1
      subst h2
      refine ⟨fun x hx => ?_, hS164, hS1l, ?_⟩
      · simp only [List.mem_singleton] at hx
        subst hx
        exact ⟨by show 0 ≤ nx.ub.txg % 2; omega, by show nx.ub.txg % 2 < _; omega, ueB_len _⟩
      · have hs : setV kp [(nx.ub.txg % 2, ueB nx.ub)] T [(nx.ub.txg % 2, ueB nx.ub)].length = if kp 0 then T.set (nx.ub.txg % 2).toNat (ueB nx.ub) else T := rfl
        rw [hs]
        split
        · exact .inr ⟨by omega, by rw [hL.secs, hS1]⟩
        · exact .inl ⟨by omega, hS1h⟩
    · rw [hq] at h
      have h1 : T = S1.set (nx.ub.txg % 2).toNat (ueB nx.ub) := by rw [hS1]; exact congrArg Prod.fst h
      have h2 : V = [] := congrArg Prod.snd h
      subst h2
      have h3 : T = nx.abs.S := by rw [h1, hL.secs, hS1]
      refine ⟨fun x hx => by simp at hx, ?_, by rw [h1, List.length_set, hS1l], .inr ⟨by omega, h3⟩⟩
      rw [h3]
      exact hL.holds.ok.s64
  · have e : (W.map (fun x => ((false, x.1, x.2) : Bool × Int × List UInt8)) ++ [(true, 0, []), (false, nx.ub.txg % 2, ueB nx.ub), (true, 0, [])]).take cut = (W.take cut).map (fun x => (false, x.1, x.2)) := by
      rw [List.take_append_of_le_length (by rw [List.length_map]; omega), List.map_take]
    rw [e, hfw cut] at h
    have h1 : T = s.abs.S := congrArg Prod.fst h
    have h2 : V = W.take cut := congrArg Prod.snd h
    subst h1
    subst h2
    refine ⟨fun x hx => ?_, hk.s64, rfl, .inl ⟨by omega, hold cut kp _⟩⟩
    have h1 := hL.free x (List.mem_of_mem_take hx)
    exact ⟨by omega, h1.2.1, hL.w64 x (List.mem_of_mem_take hx)⟩
end Go.Proofs.YtfongpdeflfioaaGreat
/- A beginning of a commit's acts, done by device.Do, and a crash behind it. -/
namespace Go.Proofs.YtfongpdeflfioaaGreat
open Go.RowKit Go.Maps Go.Sort Go.Shelf
set_option linter.unusedVariables false
set_option linter.unusedSimpArgs false
theorem run_sl_uptoN {P : Program} (w : World) (t e : TypeId) (inf : TypeInfo) (ht : P.underlying t = some (.slice e)) (hi : P.info? e = some inf) (A : Option Addr) (n c m : Nat) (M : Int) (hM : M = (m : Int)) (hm : m ≤ c) :
    (Instr.slice t (.slice A n c) none (some (.int .i64 M)) none).run P w = .ok (.slice A m c) w := by
  subst hM
  have hb : (Instr.sliceBounds true n c none (some (.int .i64 (m : Int))) none).run P w = .ok (0, m, c) w := by
    simp [Instr.sliceBounds, run_sliceBound (P := P) w .i64 (m : Int) c .sliceAcap (by omega) (by omega)]
  cases A with
  | none => simp [Instr.slice, run_underlying ht, hb, sizeOf, typeInfo, hi]
  | some a => simp [Instr.slice, run_underlying ht, hb, sizeOf, typeInfo, hi, Addr.add]
theorem acs_take {w : World} {A : Option Addr} {n c : Nat} {l : List Ac} (h : Acs w A n c l) (k : Nat) (hk : k ≤ n) : Acs w A k c (l.take k) := by
  refine ⟨by rw [List.length_take, ← h.len]; omega, Nat.le_trans hk h.le, ?_, fun a ha => h.all a (List.mem_of_mem_take ha)⟩
  have e : (l.take k).flatMap Ac.cells = (l.flatMap Ac.cells).take (k * 3) := by
    have hl : l = l.take k ++ l.drop k := (List.take_append_drop k l).symm
    conv => rhs; rw [hl]
    rw [List.flatMap_append]
    have h3 : ((l.take k).flatMap Ac.cells).length = k * 3 := by
      rw [flat_length (size := 3) (fun _ => rfl), List.length_take, ← h.len]
      congr 1
      omega
    rw [← h3, List.take_left]
  rw [e]
  exact h.rd.take _
theorem cm_faults {w : World} {A : Option Addr} {n c : Nat} {s nx : Sto} {l : List Ob} {acts : List Ac} {W : List (Int × List UInt8)} (hL : CmLaw s nx l acts W) (ha : s.abs.holds) (h : Acs w A n c acts) : ∀ a ∈ acts, faultE s.abs.S.length a = 0 := fun a hm => by
  have h1 : acAbs a ∈ W.map (fun x => ((false, x.1, x.2) : Bool × Int × List UInt8)) ++ [(true, 0, []), (false, nx.ub.txg % 2, ueB nx.ub), (true, 0, [])] := hL.acts ▸ List.mem_map_of_mem hm
  have hn2 := ha.ok.n2
  have hdl := (h.all a hm).data.len
  unfold faultE
  rcases List.mem_append.1 h1 with h1 | h1
  · obtain ⟨x, hx, e⟩ := List.mem_map.1 h1
    have e1 : false = a.flush := congrArg Prod.fst e
    have e2 : x.1 = a.pos := congrArg (fun y => y.2.1) e
    have e3 : x.2 = a.data.xs := congrArg (fun y => y.2.2) e
    have h2 := hL.free x hx
    have h3 := hL.w64 x hx
    rw [e2] at h2
    rw [e3] at h3
    rw [if_neg (by rw [← e1]; decide), if_neg (by omega), if_pos (by omega)]
  · simp only [List.mem_cons, List.not_mem_nil, or_false] at h1
    rcases h1 with e | e | e
    · have e1 : a.flush = true := congrArg Prod.fst e
      rw [if_pos e1]
    · have e1 : a.flush = false := congrArg Prod.fst e
      have e2 : a.pos = nx.ub.txg % 2 := congrArg (fun y => y.2.1) e
      have e3 : a.data.xs = ueB nx.ub := congrArg (fun y => y.2.2) e
      have h3 := ueB_len nx.ub
      rw [← e3] at h3
      rw [if_neg (by rw [e1]; decide), if_neg (by omega), if_pos (by omega)]
    · have e1 : a.flush = true := congrArg Prod.fst e
      rw [if_pos e1]
theorem cut_do {w0 w : World} {A : Option Addr} {c : Nat} {s nx : Sto} {l : List Ob} {acts : List Ac} {W : List (Int × List UInt8)} (hL : CmLaw s nx l acts W) (ha : s.abs.holds) (hw : s.dev.waits.n = 0) (hs : Sto.At w 0 w.heap.size s) (h : Acs w A acts.length c acts) (hsm : acts.length ≤ 100000) (cut : Nat) (hc : cut ≤ acts.length) :
    Calls Tryz.prog 22 #[.agg s.dev.cells.toArray, .slice A cut c] w fun e w' => ∃ d : Dev, e = .returned (.tuple #[.agg d.cells.toArray, .int .i64 0]) ∧ chkE d = 0 ∧ d.waits.n ≤ 100000 ∧
      (∀ kp, (cut < acts.length ∧ (⟨setV kp d.wv d.secv d.waits.n, s.abs.u, s.abs.O, s.abs.X⟩ : Abs).holds) ∨ (acts.length ≤ cut + 1 ∧ setV kp d.wv d.secv d.waits.n = nx.abs.S)) ∧ Dev.At w' w.heap.size w'.heap.size d ∧ Ext w w' := by
  have hsl := secv_len hs
  have hwv : s.dev.wv = [] := by
    have h1 : s.dev.waits.xs = [] := List.eq_nil_of_length_eq_zero (by rw [← hs.dev.waits.len]; exact hw)
    rw [Dev.wv, h1]; rfl
  refine (do_yes s.dev w hs.dev (all64 hs.dev ha.ok.s64 hw (by have := ha.ok.n2; omega) (by have := ha.ok.n8; omega)) A cut c (acts.take cut) (acs_take h cut hc) (fun a hm => by rw [← hsl]; exact cm_faults hL ha h a (List.mem_of_mem_take hm)) (by rw [hw]; omega)).mono ?_
  rintro e w' ⟨⟨d, rfl, hv, hn, hd⟩, ee⟩
  rw [hwv] at hv
  have hcl := fun kp => crash_law hL ha cut hc kp d.secv d.wv hv
  have hwl : d.wv.length = d.waits.n := by rw [Dev.wv, List.length_map, hd.waits.len]
  have hsn : s.abs.S.length = d.secs.n := by rw [hn, hsl]
  obtain ⟨c1, c2, c3, _⟩ := hcl (fun _ => true)
  have hwl2 : d.wv.length ≤ acts.length := by
    have h9 : ∀ (L : List Ac) (st : List (List UInt8) × List (Int × List UInt8)), (doV L st).2.length ≤ st.2.length + L.length := fun L => by
      induction L with
      | nil => intro st; exact Nat.le_refl _
      | cons x L ih =>
        intro st
        have h1 := ih (stepV st x)
        have h2 : (stepV st x).2.length ≤ st.2.length + 1 := by
          unfold stepV
          split
          · simp
          · simp
        show (doV L (stepV st x)).2.length ≤ _
        rw [List.length_cons]
        omega
    have h1 := h9 (acts.take cut) (s.dev.secv, [])
    rw [← hv] at h1
    have h2 : d.wv.length ≤ 0 + (acts.take cut).length := h1
    rw [List.length_take] at h2
    omega
  refine ⟨d, rfl, chk_of hd (by rw [← hsn]; exact ha.ok.n2) (by rw [← hsn]; exact ha.ok.n8) c2 (fun x hx => by rw [← hsn]; exact c1 x hx), by omega, fun kp => ?_, hd, ee⟩
  have h5 := (hcl kp).2.2.2
  rw [hwl] at h5
  exact h5
end Go.Proofs.YtfongpdeflfioaaGreat
